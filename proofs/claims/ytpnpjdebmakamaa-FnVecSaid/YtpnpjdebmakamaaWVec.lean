/- The walk of FnVec: for every argument the law returns true and leaves alone what was there. -/
import Derived.Test.YtpnpjdebmakamaaRg
import Derived.Test.YtpnpjdebmakamaaRh
import Derived.Test.YtpnpjdebmakamaaVu
import Derived.Test.YtpnpjdebmakamaaBy
import Derived.Test.YtpnpjdebmakamaaVs
namespace Go.Proofs.Ytpnpjdebmakamaa
open Go.RowKit



set_option linter.unusedSimpArgs false in
set_option linter.unusedVariables false in
set_option maxRecDepth 20000 in
set_option maxHeartbeats 8000000 in
theorem walk_FnVec (v : Value) {w : World} (h : BytesIn w v) (v' : Value) (h' : BytesIn w v') :
    Calls Try.prog 13 #[v, v'] w fun e w' => e = .returned (.bool true) ∧ Below w.heap.size w w' := by
  obtain ⟨a0, len, cap, rfl⟩ : ∃ a len cap, v = .slice a len cap := by
    rcases h with ⟨a, c, rfl⟩ | ⟨b, off, len, cap, rfl, _⟩ <;> exact ⟨_, _, _, rfl⟩
  obtain ⟨a0', len', cap', rfl⟩ : ∃ a len cap, v' = .slice a len cap := by
    rcases h' with ⟨a, c, rfl⟩ | ⟨b, off, len, cap, rfl, _⟩ <;> exact ⟨_, _, _, rfl⟩
  by_cases hb : (1048576 : Int) < len
  · go_enter Try.func13, Try.ntmps13
    go_wp2_with fail
    go_ret
    exact ⟨rfl, Below.refl _ _⟩
  by_cases hb' : (1048576 : Int) < len'
  · go_enter Try.func13, Try.ntmps13
    go_wp2_with fail
    go_ret
    exact ⟨rfl, Below.refl _ _⟩
  go_enter Try.func13, Try.ntmps13
  go_wp2_with fail
  refine (drawVecText_any _ _ h).mono ?_
  rintro e w1 ⟨_, rfl, ⟨a, b, rfl⟩, hb1⟩
  have K := hb1
  clear hb1
  replace K := below_step K (.cells #[.int .i64 a, .int .i64 b] 26)
  have A := blk_new w1 (.int .i64 a) (.int .i64 b) 26
  obtain ⟨A0, A1, A2⟩ := A.cells
  go_wp2_with fail
  obtain ⟨f1, f2⟩ := text_read (a := a) (b := b)
  have fl := vtxt_len a b
  generalize hs : vtxt a b = s at *
  have HS := Lib.hid hs
  have F1 := Lib.hid f1
  clear hs f1
  refine (vecText_impl a b _).mono ?_; rintro e w2 ⟨rfl, hb⟩
  rw [HS.out]
  clear A0 A1 A2
  replace A := A.keep hb
  replace K := below_two K hb
  clear hb
  obtain ⟨A0, A1, A2⟩ := A.cells
  go_wp2_with fail
  cases hv : vokB a b
  · have HV := Lib.hid hv
    have HR : Hid (rdOk s = false) := Lib.hid (F1.out.trans hv)
    have HW : Hid (rdW s = 0) := Lib.hid (by simp [rdW, HR.out])
    have HN : Hid (rdN s = 0) := Lib.hid (by simp [rdN, HR.out])
    clear f2 hv
    refine (vecRead_impl s _ (by omega)).mono ?_; rintro e w3 ⟨rfl, hb⟩
    rw [HW.out, HN.out, HR.out]
    clear A0 A1 A2
    replace A := A.keep hb
    replace K := below_two K hb
    clear hb
    have nA : ¬ w1.heap.size = w3.heap.size := Nat.ne_of_lt A.lt
    replace A := A.alloc (.cells #[.int .i64 0, .int .i64 0] 26)
    replace K := below_step K (.cells #[.int .i64 0, .int .i64 0] 26)
    have X := blk_new w3 (.int .i64 0) (.int .i64 0) 26
    obtain ⟨A0, A1, A2⟩ := A.cells
    obtain ⟨X0, X1, X2⟩ := X.cells
    go_wp2_with fail
    clear A0 A1 A2 X0 X1 X2
    clear nA
    replace A := A.drew
    replace X := X.drew
    replace K := K.drew
    have sS := cells2 A X
    refine wp_region_noPanic ?_
    refine wp_region_held_drew (S := (fun wx => (wx.cell? ⟨w1.heap.size, 0, none⟩ = some (.int .i64 a) ∧ wx.cell? ⟨w1.heap.size, 1, none⟩ = some (.int .i64 b)) ∧ (wx.cell? ⟨w3.heap.size, 0, none⟩ = some (.int .i64 0) ∧ wx.cell? ⟨w3.heap.size, 1, none⟩ = some (.int .i64 0)))) (by kernel_rfl) sS (fun hHeld => ?_)
    refine wpAnyH_take (i := 0) (oi := { dst := some 31, op := Go.Op.move (Go.Operand.tmp 6), type := 9, pos := _, after := #[], guard := none }) (v := ?_) rfl (by kernel_rfl) (by kernel_rfl) (by kernel_rfl) (fun _ _ _ h => h) (Or.inl ⟨by rfl, ?_⟩) hHeld ?_
    rotate_left
    · (intro wq hSw; (try dsimp only at hSw); (try go_simp); (try with_reducible rfl))
    try simp only [Act.put, List.setIfInBounds_toArray, List.set_cons_zero, List.set_cons_succ]
    refine wpAnyH_take (i := 1) (oi := { dst := some 32, op := Go.Op.load 26 (Go.Operand.tmp 5), type := 26, pos := _, after := #[], guard := none }) (v := ?_) rfl (by kernel_rfl) (by kernel_rfl) (by kernel_rfl) (fun _ _ _ h => h) (Or.inl ⟨by rfl, ?_⟩) hHeld ?_
    rotate_left
    · (intro wq hSw; (try dsimp only at hSw); (try go_simp); (try with_reducible rfl))
    try simp only [Act.put, List.setIfInBounds_toArray, List.set_cons_zero, List.set_cons_succ]
    refine wpAnyH_ready (rs := [2]) (by kernel_rfl) (by simp) ?_
    refine AllReadyH.cons (o := { dst := some 33, op := Go.Op.call { callee := Go.Callee.value (Go.Operand.func 31), args := #[Go.Operand.tmp 32], argTypes := #[26] }, type := 9, pos := _, after := #[{ on := 1, ground := Go.Ground.data }], guard := none }) rfl (fun KK hKK => ?_) AllReadyH.nil
    go_simp
    (first | (go_at_call 31; (with_reducible refine (vecText_spec a b _).mono ?_); rintro e w4 ⟨rfl, hb⟩; rw [HS.out]; replace A := A.keep hb; replace X := X.keep hb; replace K := below_two K hb; clear hb; replace sS := cells2 A X) | (go_at_call 23; (with_reducible refine (vecOk_impl a b _).mono ?_); rintro e w4 ⟨rfl, hb⟩; rw [HV.out]; replace A := A.keep hb; replace X := X.keep hb; replace K := below_two K hb; clear hb; replace sS := cells2 A X) | (go_at_call 21; (with_reducible refine (vecOk_spec a b _).mono ?_); rintro e w4 ⟨rfl, hb⟩; rw [HV.out]; replace A := A.keep hb; replace X := X.keep hb; replace K := below_two K hb; clear hb; replace sS := cells2 A X))
    try go_simp
    refine hKK.out _ _ sS (fun hHeld => ?_)
    clear hKK KK
    try simp only [Act.put, List.setIfInBounds_toArray, List.set_cons_zero, List.set_cons_succ]
    refine wpAnyH_take (i := 3) (oi := { dst := some 34, op := Go.Op.binOp Go.BinOp.neq 9 (Go.Operand.tmp 31) (Go.Operand.tmp 33) 9, type := 4, pos := _, after := #[{ on := 0, ground := Go.Ground.data }, { on := 2, ground := Go.Ground.data }], guard := none }) (v := ?_) rfl (by kernel_rfl) (by kernel_rfl) (by kernel_rfl) (fun _ _ _ h => h) (Or.inl ⟨by rfl, ?_⟩) hHeld ?_
    rotate_left
    · (intro wq hSw; (try dsimp only at hSw); (try go_simp); (try with_reducible rfl))
    try simp only [Act.put, List.setIfInBounds_toArray, List.set_cons_zero, List.set_cons_succ]
    refine wpAnyH_take (i := 4) (oi := { dst := some 35, op := Go.Op.move (Go.Operand.tmp 34), type := 4, pos := _, after := #[{ on := 3, ground := Go.Ground.data }, { on := 2, ground := Go.Ground.chain }], guard := none }) (v := ?_) rfl (by kernel_rfl) (by kernel_rfl) (by kernel_rfl) (fun _ _ _ h => h) (Or.inl ⟨by rfl, ?_⟩) hHeld ?_
    rotate_left
    · (intro wq hSw; (try dsimp only at hSw); (try go_simp); (try with_reducible rfl))
    try simp only [Act.put, List.setIfInBounds_toArray, List.set_cons_zero, List.set_cons_succ]
    refine wpAnyH_take (i := 5) (oi := { dst := some 36, op := Go.Op.load 26 (Go.Operand.tmp 5), type := 26, pos := _, after := #[{ on := 4, ground := Go.Ground.guard }], guard := some (4, false) }) (v := ?_) rfl (by kernel_rfl) (by kernel_rfl) (by kernel_rfl) (fun _ _ _ h => h) (Or.inl ⟨by rfl, ?_⟩) hHeld ?_
    rotate_left
    · (intro wq hSw; (try dsimp only at hSw); (try go_simp); (try with_reducible rfl))
    try simp only [Act.put, List.setIfInBounds_toArray, List.set_cons_zero, List.set_cons_succ]
    refine wpAnyH_take (i := 7) (oi := { dst := some 38, op := Go.Op.load 26 (Go.Operand.tmp 5), type := 26, pos := _, after := #[{ on := 4, ground := Go.Ground.guard }], guard := some (4, false) }) (v := ?_) rfl (by kernel_rfl) (by kernel_rfl) (by kernel_rfl) (fun _ _ _ h => h) (Or.inl ⟨by rfl, ?_⟩) hHeld ?_
    rotate_left
    · (intro wq hSw; (try dsimp only at hSw); (try go_simp); (try with_reducible rfl))
    try simp only [Act.put, List.setIfInBounds_toArray, List.set_cons_zero, List.set_cons_succ]
    refine wpAnyH_ready (rs := [6]) (by kernel_rfl) (by simp) ?_
    refine AllReadyH.cons (o := { dst := some 37, op := Go.Op.call { callee := Go.Callee.value (Go.Operand.func 23), args := #[Go.Operand.tmp 36], argTypes := #[26] }, type := 4, pos := _, after := #[{ on := 5, ground := Go.Ground.data }, { on := 4, ground := Go.Ground.chain }, { on := 4, ground := Go.Ground.guard }], guard := some (4, false) }) rfl (fun KK hKK => ?_) AllReadyH.nil
    go_simp
    (first | (go_at_call 31; (with_reducible refine (vecText_spec a b _).mono ?_); rintro e w4 ⟨rfl, hb⟩; rw [HS.out]; replace A := A.keep hb; replace X := X.keep hb; replace K := below_two K hb; clear hb; replace sS := cells2 A X) | (go_at_call 23; (with_reducible refine (vecOk_impl a b _).mono ?_); rintro e w4 ⟨rfl, hb⟩; rw [HV.out]; replace A := A.keep hb; replace X := X.keep hb; replace K := below_two K hb; clear hb; replace sS := cells2 A X) | (go_at_call 21; (with_reducible refine (vecOk_spec a b _).mono ?_); rintro e w4 ⟨rfl, hb⟩; rw [HV.out]; replace A := A.keep hb; replace X := X.keep hb; replace K := below_two K hb; clear hb; replace sS := cells2 A X))
    try go_simp
    refine hKK.out _ _ sS (fun hHeld => ?_)
    clear hKK KK
    try simp only [Act.put, List.setIfInBounds_toArray, List.set_cons_zero, List.set_cons_succ]
    refine wpAnyH_ready (rs := [8]) (by kernel_rfl) (by simp) ?_
    refine AllReadyH.cons (o := { dst := some 39, op := Go.Op.call { callee := Go.Callee.value (Go.Operand.func 21), args := #[Go.Operand.tmp 38], argTypes := #[26] }, type := 4, pos := _, after := #[{ on := 7, ground := Go.Ground.data }, { on := 6, ground := Go.Ground.chain }, { on := 4, ground := Go.Ground.guard }], guard := some (4, false) }) rfl (fun KK hKK => ?_) AllReadyH.nil
    go_simp
    (first | (go_at_call 31; (with_reducible refine (vecText_spec a b _).mono ?_); rintro e w4 ⟨rfl, hb⟩; rw [HS.out]; replace A := A.keep hb; replace X := X.keep hb; replace K := below_two K hb; clear hb; replace sS := cells2 A X) | (go_at_call 23; (with_reducible refine (vecOk_impl a b _).mono ?_); rintro e w4 ⟨rfl, hb⟩; rw [HV.out]; replace A := A.keep hb; replace X := X.keep hb; replace K := below_two K hb; clear hb; replace sS := cells2 A X) | (go_at_call 21; (with_reducible refine (vecOk_spec a b _).mono ?_); rintro e w4 ⟨rfl, hb⟩; rw [HV.out]; replace A := A.keep hb; replace X := X.keep hb; replace K := below_two K hb; clear hb; replace sS := cells2 A X))
    try go_simp
    refine hKK.out _ _ sS (fun hHeld => ?_)
    clear hKK KK
    try simp only [Act.put, List.setIfInBounds_toArray, List.set_cons_zero, List.set_cons_succ]
    refine wpAnyH_take (i := 9) (oi := { dst := some 40, op := Go.Op.binOp Go.BinOp.neq 4 (Go.Operand.tmp 37) (Go.Operand.tmp 39) 4, type := 4, pos := _, after := #[{ on := 6, ground := Go.Ground.data }, { on := 8, ground := Go.Ground.data }, { on := 4, ground := Go.Ground.guard }], guard := some (4, false) }) (v := ?_) rfl (by kernel_rfl) (by kernel_rfl) (by kernel_rfl) (fun _ _ _ h => h) (Or.inl ⟨by rfl, ?_⟩) hHeld ?_
    rotate_left
    · (intro wq hSw; (try dsimp only at hSw); (try go_simp); (try with_reducible rfl))
    try simp only [Act.put, List.setIfInBounds_toArray, List.set_cons_zero, List.set_cons_succ]
    refine wpAnyH_take (i := 10) (oi := { dst := some 41, op := Go.Op.pick (Go.Operand.tmp 35) (Go.Operand.const (Go.Value.bool true)) (Go.Operand.tmp 40), type := 4, pos := _, after := #[{ on := 4, ground := Go.Ground.data }, { on := 9, ground := Go.Ground.data }], guard := none }) (v := ?_) rfl (by kernel_rfl) (by kernel_rfl) (by kernel_rfl) (fun _ _ _ h => h) (Or.inl ⟨by rfl, ?_⟩) hHeld ?_
    rotate_left
    · (intro wq hSw; (try dsimp only at hSw); (try go_simp); (try with_reducible rfl))
    try simp only [Act.put, List.setIfInBounds_toArray, List.set_cons_zero, List.set_cons_succ]
    refine wpAnyH_take (i := 11) (oi := { dst := some 42, op := Go.Op.move (Go.Operand.tmp 41), type := 4, pos := _, after := #[{ on := 10, ground := Go.Ground.data }, { on := 8, ground := Go.Ground.chain }], guard := none }) (v := ?_) rfl (by kernel_rfl) (by kernel_rfl) (by kernel_rfl) (fun _ _ _ h => h) (Or.inl ⟨by rfl, ?_⟩) hHeld ?_
    rotate_left
    · (intro wq hSw; (try dsimp only at hSw); (try go_simp); (try with_reducible rfl))
    try simp only [Act.put, List.setIfInBounds_toArray, List.set_cons_zero, List.set_cons_succ]
    refine wpAnyH_take (i := 12) (oi := { dst := some 43, op := Go.Op.move (Go.Operand.tmp 8), type := 4, pos := _, after := #[{ on := 11, ground := Go.Ground.guard }], guard := some (11, false) }) (v := ?_) rfl (by kernel_rfl) (by kernel_rfl) (by kernel_rfl) (fun _ _ _ h => h) (Or.inl ⟨by rfl, ?_⟩) hHeld ?_
    rotate_left
    · (intro wq hSw; (try dsimp only at hSw); (try go_simp); (try with_reducible rfl))
    try simp only [Act.put, List.setIfInBounds_toArray, List.set_cons_zero, List.set_cons_succ]
    refine wpAnyH_take (i := 13) (oi := { dst := some 44, op := Go.Op.load 26 (Go.Operand.tmp 5), type := 26, pos := _, after := #[{ on := 11, ground := Go.Ground.guard }], guard := some (11, false) }) (v := ?_) rfl (by kernel_rfl) (by kernel_rfl) (by kernel_rfl) (fun _ _ _ h => h) (Or.inl ⟨by rfl, ?_⟩) hHeld ?_
    rotate_left
    · (intro wq hSw; (try dsimp only at hSw); (try go_simp); (try with_reducible rfl))
    try simp only [Act.put, List.setIfInBounds_toArray, List.set_cons_zero, List.set_cons_succ]
    refine wpAnyH_ready (rs := [14]) (by kernel_rfl) (by simp) ?_
    refine AllReadyH.cons (o := { dst := some 45, op := Go.Op.call { callee := Go.Callee.value (Go.Operand.func 21), args := #[Go.Operand.tmp 44], argTypes := #[26] }, type := 4, pos := _, after := #[{ on := 13, ground := Go.Ground.data }, { on := 11, ground := Go.Ground.chain }, { on := 11, ground := Go.Ground.guard }], guard := some (11, false) }) rfl (fun KK hKK => ?_) AllReadyH.nil
    go_simp
    (first | (go_at_call 31; (with_reducible refine (vecText_spec a b _).mono ?_); rintro e w4 ⟨rfl, hb⟩; rw [HS.out]; replace A := A.keep hb; replace X := X.keep hb; replace K := below_two K hb; clear hb; replace sS := cells2 A X) | (go_at_call 23; (with_reducible refine (vecOk_impl a b _).mono ?_); rintro e w4 ⟨rfl, hb⟩; rw [HV.out]; replace A := A.keep hb; replace X := X.keep hb; replace K := below_two K hb; clear hb; replace sS := cells2 A X) | (go_at_call 21; (with_reducible refine (vecOk_spec a b _).mono ?_); rintro e w4 ⟨rfl, hb⟩; rw [HV.out]; replace A := A.keep hb; replace X := X.keep hb; replace K := below_two K hb; clear hb; replace sS := cells2 A X))
    try go_simp
    refine hKK.out _ _ sS (fun hHeld => ?_)
    clear hKK KK
    try simp only [Act.put, List.setIfInBounds_toArray, List.set_cons_zero, List.set_cons_succ]
    refine wpAnyH_take (i := 15) (oi := { dst := some 46, op := Go.Op.binOp Go.BinOp.neq 4 (Go.Operand.tmp 43) (Go.Operand.tmp 45) 4, type := 4, pos := _, after := #[{ on := 12, ground := Go.Ground.data }, { on := 14, ground := Go.Ground.data }, { on := 11, ground := Go.Ground.guard }], guard := some (11, false) }) (v := ?_) rfl (by kernel_rfl) (by kernel_rfl) (by kernel_rfl) (fun _ _ _ h => h) (Or.inl ⟨by rfl, ?_⟩) hHeld ?_
    rotate_left
    · (intro wq hSw; (try dsimp only at hSw); (try go_simp); (try with_reducible rfl))
    try simp only [Act.put, List.setIfInBounds_toArray, List.set_cons_zero, List.set_cons_succ]
    refine wpAnyH_take (i := 16) (oi := { dst := some 47, op := Go.Op.pick (Go.Operand.tmp 42) (Go.Operand.const (Go.Value.bool true)) (Go.Operand.tmp 46), type := 4, pos := _, after := #[{ on := 11, ground := Go.Ground.data }, { on := 15, ground := Go.Ground.data }], guard := none }) (v := ?_) rfl (by kernel_rfl) (by kernel_rfl) (by kernel_rfl) (fun _ _ _ h => h) (Or.inl ⟨by rfl, ?_⟩) hHeld ?_
    rotate_left
    · (intro wq hSw; (try dsimp only at hSw); (try go_simp); (try with_reducible rfl))
    try simp only [Act.put, List.setIfInBounds_toArray, List.set_cons_zero, List.set_cons_succ]
    refine wpAnyH_take (i := 17) (oi := { dst := some 48, op := Go.Op.move (Go.Operand.tmp 47), type := 4, pos := _, after := #[{ on := 16, ground := Go.Ground.data }, { on := 14, ground := Go.Ground.chain }], guard := none }) (v := ?_) rfl (by kernel_rfl) (by kernel_rfl) (by kernel_rfl) (fun _ _ _ h => h) (Or.inl ⟨by rfl, ?_⟩) hHeld ?_
    rotate_left
    · (intro wq hSw; (try dsimp only at hSw); (try go_simp); (try with_reducible rfl))
    try simp only [Act.put, List.setIfInBounds_toArray, List.set_cons_zero, List.set_cons_succ]
    refine wpAnyH_take (i := 18) (oi := { dst := some 49, op := Go.Op.move (Go.Operand.tmp 8), type := 4, pos := _, after := #[{ on := 17, ground := Go.Ground.guard }], guard := some (17, false) }) (v := ?_) rfl (by kernel_rfl) (by kernel_rfl) (by kernel_rfl) (fun _ _ _ h => h) (Or.inl ⟨by rfl, ?_⟩) hHeld ?_
    rotate_left
    · (intro wq hSw; (try dsimp only at hSw); (try go_simp); (try with_reducible rfl))
    try simp only [Act.put, List.setIfInBounds_toArray, List.set_cons_zero, List.set_cons_succ]
    refine wpAnyH_take (i := 19) (oi := { dst := some 50, op := Go.Op.move (Go.Operand.tmp 49), type := 4, pos := _, after := #[{ on := 18, ground := Go.Ground.data }, { on := 17, ground := Go.Ground.chain }, { on := 17, ground := Go.Ground.guard }], guard := some (17, false) }) (v := ?_) rfl (by kernel_rfl) (by kernel_rfl) (by kernel_rfl) (fun _ _ _ h => h) (Or.inl ⟨by rfl, ?_⟩) hHeld ?_
    rotate_left
    · (intro wq hSw; (try dsimp only at hSw); (try go_simp); (try with_reducible rfl))
    try simp only [Act.put, List.setIfInBounds_toArray, List.set_cons_zero, List.set_cons_succ]
    refine wpAnyH_take (i := 20) (oi := { dst := some 51, op := Go.Op.load 26 (Go.Operand.tmp 7), type := 26, pos := _, after := #[{ on := 19, ground := Go.Ground.guard }], guard := some (19, true) }) (v := undef) rfl (by kernel_rfl) (by kernel_rfl) (by kernel_rfl) (fun _ _ _ h => h) (Or.inr ⟨by rfl, rfl⟩) hHeld ?_
    try simp only [Act.put, List.setIfInBounds_toArray, List.set_cons_zero, List.set_cons_succ]
    refine wpAnyH_take (i := 21) (oi := { dst := some 52, op := Go.Op.load 26 (Go.Operand.tmp 5), type := 26, pos := _, after := #[{ on := 19, ground := Go.Ground.guard }], guard := some (19, true) }) (v := undef) rfl (by kernel_rfl) (by kernel_rfl) (by kernel_rfl) (fun _ _ _ h => h) (Or.inr ⟨by rfl, rfl⟩) hHeld ?_
    try simp only [Act.put, List.setIfInBounds_toArray, List.set_cons_zero, List.set_cons_succ]
    refine wpAnyH_take (i := 22) (oi := { dst := some 53, op := Go.Op.binOp Go.BinOp.neq 26 (Go.Operand.tmp 51) (Go.Operand.tmp 52) 26, type := 4, pos := _, after := #[{ on := 20, ground := Go.Ground.data }, { on := 21, ground := Go.Ground.data }, { on := 19, ground := Go.Ground.guard }], guard := some (19, true) }) (v := undef) rfl (by kernel_rfl) (by kernel_rfl) (by kernel_rfl) (fun _ _ _ h => h) (Or.inr ⟨by rfl, rfl⟩) hHeld ?_
    try simp only [Act.put, List.setIfInBounds_toArray, List.set_cons_zero, List.set_cons_succ]
    refine wpAnyH_take (i := 23) (oi := { dst := some 54, op := Go.Op.pick (Go.Operand.tmp 50) (Go.Operand.tmp 53) (Go.Operand.const (Go.Value.bool false)), type := 4, pos := _, after := #[{ on := 19, ground := Go.Ground.data }, { on := 22, ground := Go.Ground.data }, { on := 17, ground := Go.Ground.guard }], guard := some (17, false) }) (v := ?_) rfl (by kernel_rfl) (by kernel_rfl) (by kernel_rfl) (fun _ _ _ h => h) (Or.inl ⟨by rfl, ?_⟩) hHeld ?_
    rotate_left
    · (intro wq hSw; (try dsimp only at hSw); (try go_simp); (try with_reducible rfl))
    try simp only [Act.put, List.setIfInBounds_toArray, List.set_cons_zero, List.set_cons_succ]
    refine wpAnyH_take (i := 24) (oi := { dst := some 55, op := Go.Op.pick (Go.Operand.tmp 48) (Go.Operand.const (Go.Value.bool true)) (Go.Operand.tmp 54), type := 4, pos := _, after := #[{ on := 17, ground := Go.Ground.data }, { on := 23, ground := Go.Ground.data }], guard := none }) (v := ?_) rfl (by kernel_rfl) (by kernel_rfl) (by kernel_rfl) (fun _ _ _ h => h) (Or.inl ⟨by rfl, ?_⟩) hHeld ?_
    rotate_left
    · (intro wq hSw; (try dsimp only at hSw); (try go_simp); (try with_reducible rfl))
    try simp only [Act.put, List.setIfInBounds_toArray, List.set_cons_zero, List.set_cons_succ]
    refine wpAnyH_done (by kernel_rfl) ?_ _
    refine NoPanic.normal ?_
    clear sS
    obtain ⟨A0, A1, A2⟩ := A.cells
    obtain ⟨X0, X1, X2⟩ := X.cells
    go_wp2_with fail
    refine (drawVecRead_any _ _ (h'.below K)).mono ?_
    rintro e w5 ⟨_, rfl, ⟨y, rfl, hy⟩, hb1⟩
    clear A0 A1 A2 X0 X1 X2
    replace A := A.keep hb1
    replace X := X.keep hb1
    replace K := below_two K hb1
    clear hb1
    obtain ⟨A0, A1, A2⟩ := A.cells
    obtain ⟨X0, X1, X2⟩ := X.cells
    go_wp2_with fail
    cases hr : rdOk y
    · have HW : Hid (rdW y = 0) := Lib.hid (by simp [rdW, hr])
      have HN : Hid (rdN y = 0) := Lib.hid (by simp [rdN, hr])
      have HR := Lib.hid hr
      clear hr
      refine (vecRead_impl y _ (by omega)).mono ?_; rintro e w6 ⟨rfl, hb⟩
      rw [HW.out, HN.out, HR.out]
      clear A0 A1 A2 X0 X1 X2
      replace A := A.keep hb
      replace X := X.keep hb
      replace K := below_two K hb
      clear hb
      have nA : ¬ w1.heap.size = w6.heap.size := Nat.ne_of_lt A.lt
      have nX : ¬ w3.heap.size = w6.heap.size := Nat.ne_of_lt X.lt
      replace A := A.alloc (.cells #[.int .i64 0, .int .i64 0] 26)
      replace X := X.alloc (.cells #[.int .i64 0, .int .i64 0] 26)
      replace K := below_step K (.cells #[.int .i64 0, .int .i64 0] 26)
      have P := blk_new w6 (.int .i64 0) (.int .i64 0) 26
      obtain ⟨A0, A1, A2⟩ := A.cells
      obtain ⟨X0, X1, X2⟩ := X.cells
      obtain ⟨P0, P1, P2⟩ := P.cells
      go_wp2_with fail
      refine (vecRead_spec y _ (by omega)).mono ?_; rintro e w7 ⟨rfl, hb⟩
      rw [HW.out, HN.out, HR.out]
      clear A0 A1 A2 X0 X1 X2 P0 P1 P2
      clear nA nX
      replace A := A.keep hb
      replace X := X.keep hb
      replace P := P.keep hb
      replace K := below_two K hb
      clear hb
      have nA : ¬ w1.heap.size = w7.heap.size := Nat.ne_of_lt A.lt
      have nX : ¬ w3.heap.size = w7.heap.size := Nat.ne_of_lt X.lt
      have nP : ¬ w6.heap.size = w7.heap.size := Nat.ne_of_lt P.lt
      replace A := A.alloc (.cells #[.int .i64 0, .int .i64 0] 26)
      replace X := X.alloc (.cells #[.int .i64 0, .int .i64 0] 26)
      replace P := P.alloc (.cells #[.int .i64 0, .int .i64 0] 26)
      replace K := below_step K (.cells #[.int .i64 0, .int .i64 0] 26)
      have Q := blk_new w7 (.int .i64 0) (.int .i64 0) 26
      obtain ⟨A0, A1, A2⟩ := A.cells
      obtain ⟨X0, X1, X2⟩ := X.cells
      obtain ⟨P0, P1, P2⟩ := P.cells
      obtain ⟨Q0, Q1, Q2⟩ := Q.cells
      go_wp2_with fail
      go_ret
      exact ⟨rfl, K⟩
    · obtain ⟨g1, g2⟩ := read_text hr
      have G1 := Lib.hid g1
      have G2 := Lib.hid g2
      clear g1 g2
      generalize hW : rdW y = yw at *
      generalize hN : rdN y = yn at *
      have HW := Lib.hid hW
      have HN := Lib.hid hN
      clear hW hN
      have HR := Lib.hid hr
      clear hr
      refine (vecRead_impl y _ (by omega)).mono ?_; rintro e w6 ⟨rfl, hb⟩
      rw [HW.out, HN.out, HR.out]
      clear A0 A1 A2 X0 X1 X2
      replace A := A.keep hb
      replace X := X.keep hb
      replace K := below_two K hb
      clear hb
      have nA : ¬ w1.heap.size = w6.heap.size := Nat.ne_of_lt A.lt
      have nX : ¬ w3.heap.size = w6.heap.size := Nat.ne_of_lt X.lt
      replace A := A.alloc (.cells #[.int .i64 yw, .int .i64 yn] 26)
      replace X := X.alloc (.cells #[.int .i64 yw, .int .i64 yn] 26)
      replace K := below_step K (.cells #[.int .i64 yw, .int .i64 yn] 26)
      have P := blk_new w6 (.int .i64 yw) (.int .i64 yn) 26
      obtain ⟨A0, A1, A2⟩ := A.cells
      obtain ⟨X0, X1, X2⟩ := X.cells
      obtain ⟨P0, P1, P2⟩ := P.cells
      go_wp2_with fail
      refine (vecRead_spec y _ (by omega)).mono ?_; rintro e w7 ⟨rfl, hb⟩
      rw [HW.out, HN.out, HR.out]
      clear A0 A1 A2 X0 X1 X2 P0 P1 P2
      clear nA nX
      replace A := A.keep hb
      replace X := X.keep hb
      replace P := P.keep hb
      replace K := below_two K hb
      clear hb
      have nA : ¬ w1.heap.size = w7.heap.size := Nat.ne_of_lt A.lt
      have nX : ¬ w3.heap.size = w7.heap.size := Nat.ne_of_lt X.lt
      have nP : ¬ w6.heap.size = w7.heap.size := Nat.ne_of_lt P.lt
      replace A := A.alloc (.cells #[.int .i64 yw, .int .i64 yn] 26)
      replace X := X.alloc (.cells #[.int .i64 yw, .int .i64 yn] 26)
      replace P := P.alloc (.cells #[.int .i64 yw, .int .i64 yn] 26)
      replace K := below_step K (.cells #[.int .i64 yw, .int .i64 yn] 26)
      have Q := blk_new w7 (.int .i64 yw) (.int .i64 yn) 26
      obtain ⟨A0, A1, A2⟩ := A.cells
      obtain ⟨X0, X1, X2⟩ := X.cells
      obtain ⟨P0, P1, P2⟩ := P.cells
      obtain ⟨Q0, Q1, Q2⟩ := Q.cells
      go_wp2_with fail
      refine (vecText_impl yw yn _).mono ?_; rintro e w8 ⟨rfl, hb⟩
      rw [G1.out]
      clear A0 A1 A2 X0 X1 X2 P0 P1 P2 Q0 Q1 Q2
      clear nA nX nP
      replace A := A.keep hb
      replace X := X.keep hb
      replace P := P.keep hb
      replace Q := Q.keep hb
      replace K := below_two K hb
      clear hb
      obtain ⟨A0, A1, A2⟩ := A.cells
      obtain ⟨X0, X1, X2⟩ := X.cells
      obtain ⟨P0, P1, P2⟩ := P.cells
      obtain ⟨Q0, Q1, Q2⟩ := Q.cells
      go_wp2_with fail
      refine (vecOk_impl yw yn _).mono ?_; rintro e w9 ⟨rfl, hb⟩
      rw [G2.out]
      clear A0 A1 A2 X0 X1 X2 P0 P1 P2 Q0 Q1 Q2
      replace A := A.keep hb
      replace X := X.keep hb
      replace P := P.keep hb
      replace Q := Q.keep hb
      replace K := below_two K hb
      clear hb
      obtain ⟨A0, A1, A2⟩ := A.cells
      obtain ⟨X0, X1, X2⟩ := X.cells
      obtain ⟨P0, P1, P2⟩ := P.cells
      obtain ⟨Q0, Q1, Q2⟩ := Q.cells
      go_wp2_with fail
      go_ret
      exact ⟨rfl, K⟩
  · have HV := Lib.hid hv
    have HR : Hid (rdOk s = true) := Lib.hid (F1.out.trans hv)
    obtain ⟨g1, g2⟩ := f2 hv
    have HW := Lib.hid g1
    have HN := Lib.hid g2
    clear g1 g2 f2 hv
    refine (vecRead_impl s _ (by omega)).mono ?_; rintro e w3 ⟨rfl, hb⟩
    rw [HW.out, HN.out, HR.out]
    clear A0 A1 A2
    replace A := A.keep hb
    replace K := below_two K hb
    clear hb
    have nA : ¬ w1.heap.size = w3.heap.size := Nat.ne_of_lt A.lt
    replace A := A.alloc (.cells #[.int .i64 a, .int .i64 b] 26)
    replace K := below_step K (.cells #[.int .i64 a, .int .i64 b] 26)
    have X := blk_new w3 (.int .i64 a) (.int .i64 b) 26
    obtain ⟨A0, A1, A2⟩ := A.cells
    obtain ⟨X0, X1, X2⟩ := X.cells
    go_wp2_with fail
    clear A0 A1 A2 X0 X1 X2
    clear nA
    replace A := A.drew
    replace X := X.drew
    replace K := K.drew
    have sS := cells2 A X
    refine wp_region_noPanic ?_
    refine wp_region_held_drew (S := (fun wx => (wx.cell? ⟨w1.heap.size, 0, none⟩ = some (.int .i64 a) ∧ wx.cell? ⟨w1.heap.size, 1, none⟩ = some (.int .i64 b)) ∧ (wx.cell? ⟨w3.heap.size, 0, none⟩ = some (.int .i64 a) ∧ wx.cell? ⟨w3.heap.size, 1, none⟩ = some (.int .i64 b)))) (by kernel_rfl) sS (fun hHeld => ?_)
    refine wpAnyH_take (i := 0) (oi := { dst := some 31, op := Go.Op.move (Go.Operand.tmp 6), type := 9, pos := _, after := #[], guard := none }) (v := ?_) rfl (by kernel_rfl) (by kernel_rfl) (by kernel_rfl) (fun _ _ _ h => h) (Or.inl ⟨by rfl, ?_⟩) hHeld ?_
    rotate_left
    · (intro wq hSw; (try dsimp only at hSw); (try go_simp); (try with_reducible rfl))
    try simp only [Act.put, List.setIfInBounds_toArray, List.set_cons_zero, List.set_cons_succ]
    refine wpAnyH_take (i := 1) (oi := { dst := some 32, op := Go.Op.load 26 (Go.Operand.tmp 5), type := 26, pos := _, after := #[], guard := none }) (v := ?_) rfl (by kernel_rfl) (by kernel_rfl) (by kernel_rfl) (fun _ _ _ h => h) (Or.inl ⟨by rfl, ?_⟩) hHeld ?_
    rotate_left
    · (intro wq hSw; (try dsimp only at hSw); (try go_simp); (try with_reducible rfl))
    try simp only [Act.put, List.setIfInBounds_toArray, List.set_cons_zero, List.set_cons_succ]
    refine wpAnyH_ready (rs := [2]) (by kernel_rfl) (by simp) ?_
    refine AllReadyH.cons (o := { dst := some 33, op := Go.Op.call { callee := Go.Callee.value (Go.Operand.func 31), args := #[Go.Operand.tmp 32], argTypes := #[26] }, type := 9, pos := _, after := #[{ on := 1, ground := Go.Ground.data }], guard := none }) rfl (fun KK hKK => ?_) AllReadyH.nil
    go_simp
    (first | (go_at_call 31; (with_reducible refine (vecText_spec a b _).mono ?_); rintro e w4 ⟨rfl, hb⟩; rw [HS.out]; replace A := A.keep hb; replace X := X.keep hb; replace K := below_two K hb; clear hb; replace sS := cells2 A X) | (go_at_call 23; (with_reducible refine (vecOk_impl a b _).mono ?_); rintro e w4 ⟨rfl, hb⟩; rw [HV.out]; replace A := A.keep hb; replace X := X.keep hb; replace K := below_two K hb; clear hb; replace sS := cells2 A X) | (go_at_call 21; (with_reducible refine (vecOk_spec a b _).mono ?_); rintro e w4 ⟨rfl, hb⟩; rw [HV.out]; replace A := A.keep hb; replace X := X.keep hb; replace K := below_two K hb; clear hb; replace sS := cells2 A X))
    try go_simp
    refine hKK.out _ _ sS (fun hHeld => ?_)
    clear hKK KK
    try simp only [Act.put, List.setIfInBounds_toArray, List.set_cons_zero, List.set_cons_succ]
    refine wpAnyH_take (i := 3) (oi := { dst := some 34, op := Go.Op.binOp Go.BinOp.neq 9 (Go.Operand.tmp 31) (Go.Operand.tmp 33) 9, type := 4, pos := _, after := #[{ on := 0, ground := Go.Ground.data }, { on := 2, ground := Go.Ground.data }], guard := none }) (v := ?_) rfl (by kernel_rfl) (by kernel_rfl) (by kernel_rfl) (fun _ _ _ h => h) (Or.inl ⟨by rfl, ?_⟩) hHeld ?_
    rotate_left
    · (intro wq hSw; (try dsimp only at hSw); (try go_simp); (try with_reducible rfl))
    try simp only [Act.put, List.setIfInBounds_toArray, List.set_cons_zero, List.set_cons_succ]
    refine wpAnyH_take (i := 4) (oi := { dst := some 35, op := Go.Op.move (Go.Operand.tmp 34), type := 4, pos := _, after := #[{ on := 3, ground := Go.Ground.data }, { on := 2, ground := Go.Ground.chain }], guard := none }) (v := ?_) rfl (by kernel_rfl) (by kernel_rfl) (by kernel_rfl) (fun _ _ _ h => h) (Or.inl ⟨by rfl, ?_⟩) hHeld ?_
    rotate_left
    · (intro wq hSw; (try dsimp only at hSw); (try go_simp); (try with_reducible rfl))
    try simp only [Act.put, List.setIfInBounds_toArray, List.set_cons_zero, List.set_cons_succ]
    refine wpAnyH_take (i := 5) (oi := { dst := some 36, op := Go.Op.load 26 (Go.Operand.tmp 5), type := 26, pos := _, after := #[{ on := 4, ground := Go.Ground.guard }], guard := some (4, false) }) (v := ?_) rfl (by kernel_rfl) (by kernel_rfl) (by kernel_rfl) (fun _ _ _ h => h) (Or.inl ⟨by rfl, ?_⟩) hHeld ?_
    rotate_left
    · (intro wq hSw; (try dsimp only at hSw); (try go_simp); (try with_reducible rfl))
    try simp only [Act.put, List.setIfInBounds_toArray, List.set_cons_zero, List.set_cons_succ]
    refine wpAnyH_take (i := 7) (oi := { dst := some 38, op := Go.Op.load 26 (Go.Operand.tmp 5), type := 26, pos := _, after := #[{ on := 4, ground := Go.Ground.guard }], guard := some (4, false) }) (v := ?_) rfl (by kernel_rfl) (by kernel_rfl) (by kernel_rfl) (fun _ _ _ h => h) (Or.inl ⟨by rfl, ?_⟩) hHeld ?_
    rotate_left
    · (intro wq hSw; (try dsimp only at hSw); (try go_simp); (try with_reducible rfl))
    try simp only [Act.put, List.setIfInBounds_toArray, List.set_cons_zero, List.set_cons_succ]
    refine wpAnyH_ready (rs := [6]) (by kernel_rfl) (by simp) ?_
    refine AllReadyH.cons (o := { dst := some 37, op := Go.Op.call { callee := Go.Callee.value (Go.Operand.func 23), args := #[Go.Operand.tmp 36], argTypes := #[26] }, type := 4, pos := _, after := #[{ on := 5, ground := Go.Ground.data }, { on := 4, ground := Go.Ground.chain }, { on := 4, ground := Go.Ground.guard }], guard := some (4, false) }) rfl (fun KK hKK => ?_) AllReadyH.nil
    go_simp
    (first | (go_at_call 31; (with_reducible refine (vecText_spec a b _).mono ?_); rintro e w4 ⟨rfl, hb⟩; rw [HS.out]; replace A := A.keep hb; replace X := X.keep hb; replace K := below_two K hb; clear hb; replace sS := cells2 A X) | (go_at_call 23; (with_reducible refine (vecOk_impl a b _).mono ?_); rintro e w4 ⟨rfl, hb⟩; rw [HV.out]; replace A := A.keep hb; replace X := X.keep hb; replace K := below_two K hb; clear hb; replace sS := cells2 A X) | (go_at_call 21; (with_reducible refine (vecOk_spec a b _).mono ?_); rintro e w4 ⟨rfl, hb⟩; rw [HV.out]; replace A := A.keep hb; replace X := X.keep hb; replace K := below_two K hb; clear hb; replace sS := cells2 A X))
    try go_simp
    refine hKK.out _ _ sS (fun hHeld => ?_)
    clear hKK KK
    try simp only [Act.put, List.setIfInBounds_toArray, List.set_cons_zero, List.set_cons_succ]
    refine wpAnyH_ready (rs := [8]) (by kernel_rfl) (by simp) ?_
    refine AllReadyH.cons (o := { dst := some 39, op := Go.Op.call { callee := Go.Callee.value (Go.Operand.func 21), args := #[Go.Operand.tmp 38], argTypes := #[26] }, type := 4, pos := _, after := #[{ on := 7, ground := Go.Ground.data }, { on := 6, ground := Go.Ground.chain }, { on := 4, ground := Go.Ground.guard }], guard := some (4, false) }) rfl (fun KK hKK => ?_) AllReadyH.nil
    go_simp
    (first | (go_at_call 31; (with_reducible refine (vecText_spec a b _).mono ?_); rintro e w4 ⟨rfl, hb⟩; rw [HS.out]; replace A := A.keep hb; replace X := X.keep hb; replace K := below_two K hb; clear hb; replace sS := cells2 A X) | (go_at_call 23; (with_reducible refine (vecOk_impl a b _).mono ?_); rintro e w4 ⟨rfl, hb⟩; rw [HV.out]; replace A := A.keep hb; replace X := X.keep hb; replace K := below_two K hb; clear hb; replace sS := cells2 A X) | (go_at_call 21; (with_reducible refine (vecOk_spec a b _).mono ?_); rintro e w4 ⟨rfl, hb⟩; rw [HV.out]; replace A := A.keep hb; replace X := X.keep hb; replace K := below_two K hb; clear hb; replace sS := cells2 A X))
    try go_simp
    refine hKK.out _ _ sS (fun hHeld => ?_)
    clear hKK KK
    try simp only [Act.put, List.setIfInBounds_toArray, List.set_cons_zero, List.set_cons_succ]
    refine wpAnyH_take (i := 9) (oi := { dst := some 40, op := Go.Op.binOp Go.BinOp.neq 4 (Go.Operand.tmp 37) (Go.Operand.tmp 39) 4, type := 4, pos := _, after := #[{ on := 6, ground := Go.Ground.data }, { on := 8, ground := Go.Ground.data }, { on := 4, ground := Go.Ground.guard }], guard := some (4, false) }) (v := ?_) rfl (by kernel_rfl) (by kernel_rfl) (by kernel_rfl) (fun _ _ _ h => h) (Or.inl ⟨by rfl, ?_⟩) hHeld ?_
    rotate_left
    · (intro wq hSw; (try dsimp only at hSw); (try go_simp); (try with_reducible rfl))
    try simp only [Act.put, List.setIfInBounds_toArray, List.set_cons_zero, List.set_cons_succ]
    refine wpAnyH_take (i := 10) (oi := { dst := some 41, op := Go.Op.pick (Go.Operand.tmp 35) (Go.Operand.const (Go.Value.bool true)) (Go.Operand.tmp 40), type := 4, pos := _, after := #[{ on := 4, ground := Go.Ground.data }, { on := 9, ground := Go.Ground.data }], guard := none }) (v := ?_) rfl (by kernel_rfl) (by kernel_rfl) (by kernel_rfl) (fun _ _ _ h => h) (Or.inl ⟨by rfl, ?_⟩) hHeld ?_
    rotate_left
    · (intro wq hSw; (try dsimp only at hSw); (try go_simp); (try with_reducible rfl))
    try simp only [Act.put, List.setIfInBounds_toArray, List.set_cons_zero, List.set_cons_succ]
    refine wpAnyH_take (i := 11) (oi := { dst := some 42, op := Go.Op.move (Go.Operand.tmp 41), type := 4, pos := _, after := #[{ on := 10, ground := Go.Ground.data }, { on := 8, ground := Go.Ground.chain }], guard := none }) (v := ?_) rfl (by kernel_rfl) (by kernel_rfl) (by kernel_rfl) (fun _ _ _ h => h) (Or.inl ⟨by rfl, ?_⟩) hHeld ?_
    rotate_left
    · (intro wq hSw; (try dsimp only at hSw); (try go_simp); (try with_reducible rfl))
    try simp only [Act.put, List.setIfInBounds_toArray, List.set_cons_zero, List.set_cons_succ]
    refine wpAnyH_take (i := 12) (oi := { dst := some 43, op := Go.Op.move (Go.Operand.tmp 8), type := 4, pos := _, after := #[{ on := 11, ground := Go.Ground.guard }], guard := some (11, false) }) (v := ?_) rfl (by kernel_rfl) (by kernel_rfl) (by kernel_rfl) (fun _ _ _ h => h) (Or.inl ⟨by rfl, ?_⟩) hHeld ?_
    rotate_left
    · (intro wq hSw; (try dsimp only at hSw); (try go_simp); (try with_reducible rfl))
    try simp only [Act.put, List.setIfInBounds_toArray, List.set_cons_zero, List.set_cons_succ]
    refine wpAnyH_take (i := 13) (oi := { dst := some 44, op := Go.Op.load 26 (Go.Operand.tmp 5), type := 26, pos := _, after := #[{ on := 11, ground := Go.Ground.guard }], guard := some (11, false) }) (v := ?_) rfl (by kernel_rfl) (by kernel_rfl) (by kernel_rfl) (fun _ _ _ h => h) (Or.inl ⟨by rfl, ?_⟩) hHeld ?_
    rotate_left
    · (intro wq hSw; (try dsimp only at hSw); (try go_simp); (try with_reducible rfl))
    try simp only [Act.put, List.setIfInBounds_toArray, List.set_cons_zero, List.set_cons_succ]
    refine wpAnyH_ready (rs := [14]) (by kernel_rfl) (by simp) ?_
    refine AllReadyH.cons (o := { dst := some 45, op := Go.Op.call { callee := Go.Callee.value (Go.Operand.func 21), args := #[Go.Operand.tmp 44], argTypes := #[26] }, type := 4, pos := _, after := #[{ on := 13, ground := Go.Ground.data }, { on := 11, ground := Go.Ground.chain }, { on := 11, ground := Go.Ground.guard }], guard := some (11, false) }) rfl (fun KK hKK => ?_) AllReadyH.nil
    go_simp
    (first | (go_at_call 31; (with_reducible refine (vecText_spec a b _).mono ?_); rintro e w4 ⟨rfl, hb⟩; rw [HS.out]; replace A := A.keep hb; replace X := X.keep hb; replace K := below_two K hb; clear hb; replace sS := cells2 A X) | (go_at_call 23; (with_reducible refine (vecOk_impl a b _).mono ?_); rintro e w4 ⟨rfl, hb⟩; rw [HV.out]; replace A := A.keep hb; replace X := X.keep hb; replace K := below_two K hb; clear hb; replace sS := cells2 A X) | (go_at_call 21; (with_reducible refine (vecOk_spec a b _).mono ?_); rintro e w4 ⟨rfl, hb⟩; rw [HV.out]; replace A := A.keep hb; replace X := X.keep hb; replace K := below_two K hb; clear hb; replace sS := cells2 A X))
    try go_simp
    refine hKK.out _ _ sS (fun hHeld => ?_)
    clear hKK KK
    try simp only [Act.put, List.setIfInBounds_toArray, List.set_cons_zero, List.set_cons_succ]
    refine wpAnyH_take (i := 15) (oi := { dst := some 46, op := Go.Op.binOp Go.BinOp.neq 4 (Go.Operand.tmp 43) (Go.Operand.tmp 45) 4, type := 4, pos := _, after := #[{ on := 12, ground := Go.Ground.data }, { on := 14, ground := Go.Ground.data }, { on := 11, ground := Go.Ground.guard }], guard := some (11, false) }) (v := ?_) rfl (by kernel_rfl) (by kernel_rfl) (by kernel_rfl) (fun _ _ _ h => h) (Or.inl ⟨by rfl, ?_⟩) hHeld ?_
    rotate_left
    · (intro wq hSw; (try dsimp only at hSw); (try go_simp); (try with_reducible rfl))
    try simp only [Act.put, List.setIfInBounds_toArray, List.set_cons_zero, List.set_cons_succ]
    refine wpAnyH_take (i := 16) (oi := { dst := some 47, op := Go.Op.pick (Go.Operand.tmp 42) (Go.Operand.const (Go.Value.bool true)) (Go.Operand.tmp 46), type := 4, pos := _, after := #[{ on := 11, ground := Go.Ground.data }, { on := 15, ground := Go.Ground.data }], guard := none }) (v := ?_) rfl (by kernel_rfl) (by kernel_rfl) (by kernel_rfl) (fun _ _ _ h => h) (Or.inl ⟨by rfl, ?_⟩) hHeld ?_
    rotate_left
    · (intro wq hSw; (try dsimp only at hSw); (try go_simp); (try with_reducible rfl))
    try simp only [Act.put, List.setIfInBounds_toArray, List.set_cons_zero, List.set_cons_succ]
    refine wpAnyH_take (i := 17) (oi := { dst := some 48, op := Go.Op.move (Go.Operand.tmp 47), type := 4, pos := _, after := #[{ on := 16, ground := Go.Ground.data }, { on := 14, ground := Go.Ground.chain }], guard := none }) (v := ?_) rfl (by kernel_rfl) (by kernel_rfl) (by kernel_rfl) (fun _ _ _ h => h) (Or.inl ⟨by rfl, ?_⟩) hHeld ?_
    rotate_left
    · (intro wq hSw; (try dsimp only at hSw); (try go_simp); (try with_reducible rfl))
    try simp only [Act.put, List.setIfInBounds_toArray, List.set_cons_zero, List.set_cons_succ]
    refine wpAnyH_take (i := 18) (oi := { dst := some 49, op := Go.Op.move (Go.Operand.tmp 8), type := 4, pos := _, after := #[{ on := 17, ground := Go.Ground.guard }], guard := some (17, false) }) (v := ?_) rfl (by kernel_rfl) (by kernel_rfl) (by kernel_rfl) (fun _ _ _ h => h) (Or.inl ⟨by rfl, ?_⟩) hHeld ?_
    rotate_left
    · (intro wq hSw; (try dsimp only at hSw); (try go_simp); (try with_reducible rfl))
    try simp only [Act.put, List.setIfInBounds_toArray, List.set_cons_zero, List.set_cons_succ]
    refine wpAnyH_take (i := 19) (oi := { dst := some 50, op := Go.Op.move (Go.Operand.tmp 49), type := 4, pos := _, after := #[{ on := 18, ground := Go.Ground.data }, { on := 17, ground := Go.Ground.chain }, { on := 17, ground := Go.Ground.guard }], guard := some (17, false) }) (v := ?_) rfl (by kernel_rfl) (by kernel_rfl) (by kernel_rfl) (fun _ _ _ h => h) (Or.inl ⟨by rfl, ?_⟩) hHeld ?_
    rotate_left
    · (intro wq hSw; (try dsimp only at hSw); (try go_simp); (try with_reducible rfl))
    try simp only [Act.put, List.setIfInBounds_toArray, List.set_cons_zero, List.set_cons_succ]
    refine wpAnyH_take (i := 20) (oi := { dst := some 51, op := Go.Op.load 26 (Go.Operand.tmp 7), type := 26, pos := _, after := #[{ on := 19, ground := Go.Ground.guard }], guard := some (19, true) }) (v := ?_) rfl (by kernel_rfl) (by kernel_rfl) (by kernel_rfl) (fun _ _ _ h => h) (Or.inl ⟨by rfl, ?_⟩) hHeld ?_
    rotate_left
    · (intro wq hSw; (try dsimp only at hSw); (try go_simp); (try with_reducible rfl))
    try simp only [Act.put, List.setIfInBounds_toArray, List.set_cons_zero, List.set_cons_succ]
    refine wpAnyH_take (i := 21) (oi := { dst := some 52, op := Go.Op.load 26 (Go.Operand.tmp 5), type := 26, pos := _, after := #[{ on := 19, ground := Go.Ground.guard }], guard := some (19, true) }) (v := ?_) rfl (by kernel_rfl) (by kernel_rfl) (by kernel_rfl) (fun _ _ _ h => h) (Or.inl ⟨by rfl, ?_⟩) hHeld ?_
    rotate_left
    · (intro wq hSw; (try dsimp only at hSw); (try go_simp); (try with_reducible rfl))
    try simp only [Act.put, List.setIfInBounds_toArray, List.set_cons_zero, List.set_cons_succ]
    refine wpAnyH_take (i := 22) (oi := { dst := some 53, op := Go.Op.binOp Go.BinOp.neq 26 (Go.Operand.tmp 51) (Go.Operand.tmp 52) 26, type := 4, pos := _, after := #[{ on := 20, ground := Go.Ground.data }, { on := 21, ground := Go.Ground.data }, { on := 19, ground := Go.Ground.guard }], guard := some (19, true) }) (v := ?_) rfl (by kernel_rfl) (by kernel_rfl) (by kernel_rfl) (fun _ _ _ h => h) (Or.inl ⟨by rfl, ?_⟩) hHeld ?_
    rotate_left
    · (intro wq hSw; (try dsimp only at hSw); (try go_simp); (try with_reducible rfl))
    try simp only [Act.put, List.setIfInBounds_toArray, List.set_cons_zero, List.set_cons_succ]
    refine wpAnyH_take (i := 23) (oi := { dst := some 54, op := Go.Op.pick (Go.Operand.tmp 50) (Go.Operand.tmp 53) (Go.Operand.const (Go.Value.bool false)), type := 4, pos := _, after := #[{ on := 19, ground := Go.Ground.data }, { on := 22, ground := Go.Ground.data }, { on := 17, ground := Go.Ground.guard }], guard := some (17, false) }) (v := ?_) rfl (by kernel_rfl) (by kernel_rfl) (by kernel_rfl) (fun _ _ _ h => h) (Or.inl ⟨by rfl, ?_⟩) hHeld ?_
    rotate_left
    · (intro wq hSw; (try dsimp only at hSw); (try go_simp); (try with_reducible rfl))
    try simp only [Act.put, List.setIfInBounds_toArray, List.set_cons_zero, List.set_cons_succ]
    refine wpAnyH_take (i := 24) (oi := { dst := some 55, op := Go.Op.pick (Go.Operand.tmp 48) (Go.Operand.const (Go.Value.bool true)) (Go.Operand.tmp 54), type := 4, pos := _, after := #[{ on := 17, ground := Go.Ground.data }, { on := 23, ground := Go.Ground.data }], guard := none }) (v := ?_) rfl (by kernel_rfl) (by kernel_rfl) (by kernel_rfl) (fun _ _ _ h => h) (Or.inl ⟨by rfl, ?_⟩) hHeld ?_
    rotate_left
    · (intro wq hSw; (try dsimp only at hSw); (try go_simp); (try with_reducible rfl))
    try simp only [Act.put, List.setIfInBounds_toArray, List.set_cons_zero, List.set_cons_succ]
    refine wpAnyH_done (by kernel_rfl) ?_ _
    refine NoPanic.normal ?_
    clear sS
    obtain ⟨A0, A1, A2⟩ := A.cells
    obtain ⟨X0, X1, X2⟩ := X.cells
    go_wp2_with fail
    refine (drawVecRead_any _ _ (h'.below K)).mono ?_
    rintro e w5 ⟨_, rfl, ⟨y, rfl, hy⟩, hb1⟩
    clear A0 A1 A2 X0 X1 X2
    replace A := A.keep hb1
    replace X := X.keep hb1
    replace K := below_two K hb1
    clear hb1
    obtain ⟨A0, A1, A2⟩ := A.cells
    obtain ⟨X0, X1, X2⟩ := X.cells
    go_wp2_with fail
    cases hr : rdOk y
    · have HW : Hid (rdW y = 0) := Lib.hid (by simp [rdW, hr])
      have HN : Hid (rdN y = 0) := Lib.hid (by simp [rdN, hr])
      have HR := Lib.hid hr
      clear hr
      refine (vecRead_impl y _ (by omega)).mono ?_; rintro e w6 ⟨rfl, hb⟩
      rw [HW.out, HN.out, HR.out]
      clear A0 A1 A2 X0 X1 X2
      replace A := A.keep hb
      replace X := X.keep hb
      replace K := below_two K hb
      clear hb
      have nA : ¬ w1.heap.size = w6.heap.size := Nat.ne_of_lt A.lt
      have nX : ¬ w3.heap.size = w6.heap.size := Nat.ne_of_lt X.lt
      replace A := A.alloc (.cells #[.int .i64 0, .int .i64 0] 26)
      replace X := X.alloc (.cells #[.int .i64 0, .int .i64 0] 26)
      replace K := below_step K (.cells #[.int .i64 0, .int .i64 0] 26)
      have P := blk_new w6 (.int .i64 0) (.int .i64 0) 26
      obtain ⟨A0, A1, A2⟩ := A.cells
      obtain ⟨X0, X1, X2⟩ := X.cells
      obtain ⟨P0, P1, P2⟩ := P.cells
      go_wp2_with fail
      refine (vecRead_spec y _ (by omega)).mono ?_; rintro e w7 ⟨rfl, hb⟩
      rw [HW.out, HN.out, HR.out]
      clear A0 A1 A2 X0 X1 X2 P0 P1 P2
      clear nA nX
      replace A := A.keep hb
      replace X := X.keep hb
      replace P := P.keep hb
      replace K := below_two K hb
      clear hb
      have nA : ¬ w1.heap.size = w7.heap.size := Nat.ne_of_lt A.lt
      have nX : ¬ w3.heap.size = w7.heap.size := Nat.ne_of_lt X.lt
      have nP : ¬ w6.heap.size = w7.heap.size := Nat.ne_of_lt P.lt
      replace A := A.alloc (.cells #[.int .i64 0, .int .i64 0] 26)
      replace X := X.alloc (.cells #[.int .i64 0, .int .i64 0] 26)
      replace P := P.alloc (.cells #[.int .i64 0, .int .i64 0] 26)
      replace K := below_step K (.cells #[.int .i64 0, .int .i64 0] 26)
      have Q := blk_new w7 (.int .i64 0) (.int .i64 0) 26
      obtain ⟨A0, A1, A2⟩ := A.cells
      obtain ⟨X0, X1, X2⟩ := X.cells
      obtain ⟨P0, P1, P2⟩ := P.cells
      obtain ⟨Q0, Q1, Q2⟩ := Q.cells
      go_wp2_with fail
      go_ret
      exact ⟨rfl, K⟩
    · obtain ⟨g1, g2⟩ := read_text hr
      have G1 := Lib.hid g1
      have G2 := Lib.hid g2
      clear g1 g2
      generalize hW : rdW y = yw at *
      generalize hN : rdN y = yn at *
      have HW := Lib.hid hW
      have HN := Lib.hid hN
      clear hW hN
      have HR := Lib.hid hr
      clear hr
      refine (vecRead_impl y _ (by omega)).mono ?_; rintro e w6 ⟨rfl, hb⟩
      rw [HW.out, HN.out, HR.out]
      clear A0 A1 A2 X0 X1 X2
      replace A := A.keep hb
      replace X := X.keep hb
      replace K := below_two K hb
      clear hb
      have nA : ¬ w1.heap.size = w6.heap.size := Nat.ne_of_lt A.lt
      have nX : ¬ w3.heap.size = w6.heap.size := Nat.ne_of_lt X.lt
      replace A := A.alloc (.cells #[.int .i64 yw, .int .i64 yn] 26)
      replace X := X.alloc (.cells #[.int .i64 yw, .int .i64 yn] 26)
      replace K := below_step K (.cells #[.int .i64 yw, .int .i64 yn] 26)
      have P := blk_new w6 (.int .i64 yw) (.int .i64 yn) 26
      obtain ⟨A0, A1, A2⟩ := A.cells
      obtain ⟨X0, X1, X2⟩ := X.cells
      obtain ⟨P0, P1, P2⟩ := P.cells
      go_wp2_with fail
      refine (vecRead_spec y _ (by omega)).mono ?_; rintro e w7 ⟨rfl, hb⟩
      rw [HW.out, HN.out, HR.out]
      clear A0 A1 A2 X0 X1 X2 P0 P1 P2
      clear nA nX
      replace A := A.keep hb
      replace X := X.keep hb
      replace P := P.keep hb
      replace K := below_two K hb
      clear hb
      have nA : ¬ w1.heap.size = w7.heap.size := Nat.ne_of_lt A.lt
      have nX : ¬ w3.heap.size = w7.heap.size := Nat.ne_of_lt X.lt
      have nP : ¬ w6.heap.size = w7.heap.size := Nat.ne_of_lt P.lt
      replace A := A.alloc (.cells #[.int .i64 yw, .int .i64 yn] 26)
      replace X := X.alloc (.cells #[.int .i64 yw, .int .i64 yn] 26)
      replace P := P.alloc (.cells #[.int .i64 yw, .int .i64 yn] 26)
      replace K := below_step K (.cells #[.int .i64 yw, .int .i64 yn] 26)
      have Q := blk_new w7 (.int .i64 yw) (.int .i64 yn) 26
      obtain ⟨A0, A1, A2⟩ := A.cells
      obtain ⟨X0, X1, X2⟩ := X.cells
      obtain ⟨P0, P1, P2⟩ := P.cells
      obtain ⟨Q0, Q1, Q2⟩ := Q.cells
      go_wp2_with fail
      refine (vecText_impl yw yn _).mono ?_; rintro e w8 ⟨rfl, hb⟩
      rw [G1.out]
      clear A0 A1 A2 X0 X1 X2 P0 P1 P2 Q0 Q1 Q2
      clear nA nX nP
      replace A := A.keep hb
      replace X := X.keep hb
      replace P := P.keep hb
      replace Q := Q.keep hb
      replace K := below_two K hb
      clear hb
      obtain ⟨A0, A1, A2⟩ := A.cells
      obtain ⟨X0, X1, X2⟩ := X.cells
      obtain ⟨P0, P1, P2⟩ := P.cells
      obtain ⟨Q0, Q1, Q2⟩ := Q.cells
      go_wp2_with fail
      refine (vecOk_impl yw yn _).mono ?_; rintro e w9 ⟨rfl, hb⟩
      rw [G2.out]
      clear A0 A1 A2 X0 X1 X2 P0 P1 P2 Q0 Q1 Q2
      replace A := A.keep hb
      replace X := X.keep hb
      replace P := P.keep hb
      replace Q := Q.keep hb
      replace K := below_two K hb
      clear hb
      obtain ⟨A0, A1, A2⟩ := A.cells
      obtain ⟨X0, X1, X2⟩ := X.cells
      obtain ⟨P0, P1, P2⟩ := P.cells
      obtain ⟨Q0, Q1, Q2⟩ := Q.cells
      go_wp2_with fail
      go_ret
      exact ⟨rfl, K⟩
end Go.Proofs.Ytpnpjdebmakamaa
