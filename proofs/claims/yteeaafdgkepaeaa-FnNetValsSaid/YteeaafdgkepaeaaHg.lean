/- The walk of FnNetVals: for every argument the law returns true and leaves alone what was there. -/
import Derived.Test.YteeaafdgkepaeaaHf
import Derived.Test.YteeaafdgkepaeaaNx
namespace Go.Proofs.Yteeaafdgkepaeaa
open Go.RowKit

set_option maxHeartbeats 2000000 in
theorem wpBools_any (v v' : Value) (l l' : List Bool) (w : World) (h : Bools w v l) (h' : Bools w v' l') :
    Calls Try.prog 36 #[v, v'] w (DrewRet (.bool (decide (l = l'))) w) := by
  have hl := h.len
  have hl' := h'.len
  obtain ⟨a, cap, rfl, hr⟩ := h
  obtain ⟨a', cap', rfl, hr'⟩ := h'
  by_cases hn : l.length = l'.length
  · obtain ⟨r1, r2, r3⟩ := hr
    obtain ⟨r1', r2', r3'⟩ := hr'
    rw [← hn] at r1' r3'
    have D : Hid (∀ i, i < l.length → (l.getD i false ≠ l'.getD i false → decide (l = l') = false)) := fun i _ h => by simpa using list_ne_at false h
    have E : Hid ((∀ i, i < l.length → l.getD i false = l'.getD i false) → decide (l = l') = true) := fun h => by simpa using list_eq_of false hn h
    rw [← hn]
    generalize decide (l = l') = z at *
    clear hn hl'
    go_enter Try.func36, Try.ntmps36
    go_wp2
    go_loopw [5] (fun i wr => ∃ k : Nat, k ≤ l.length ∧ i = .int .i64 k ∧ Hid (∀ i, i < k → l.getD i false = l'.getD i false) ∧ ∃ m, wr = w.drewN m) (fun i _ => l.length - (intOf i).toNat)
    case atStart => exact ⟨0, Nat.zero_le _, rfl, fun i hi => absurd hi (by omega), 0, rfl⟩
    case round =>
      obtain ⟨k, hk, rfl, hsame, m, rfl⟩ := hrel
      by_cases hlt : k < l.length
      · rcases r3 with r3 | ⟨b, off, rfl, r4, r5⟩
        · omega
        rcases r3' with r3' | ⟨b', off', rfl, r4', r5'⟩
        · omega
        have r6 : w.cell? ⟨b, off + k, none⟩ = some (.bool (l.getD k false)) := r5 k hlt
        have r6' : w.cell? ⟨b', off' + k, none⟩ = some (.bool (l'.getD k false)) := r5' k hlt
        have S : Hid (l.getD k false = l'.getD k false → ∀ i, i < k + 1 → l.getD i false = l'.getD i false) := fun h i hi => by
          rcases Nat.lt_or_ge i k with h1 | h1
          · exact hsame.out i h1
          · rw [show i = k by omega]; exact h
        have D2 : Hid (l.getD k false ≠ l'.getD k false → z = false) := D.out k hlt
        clear r5 r5' hsame D E
        generalize l.getD k false = x at *
        generalize l'.getD k false = y at *
        have hk0 : (0 : Int) ≤ (k : Int) := by omega
        have hk1 : (k : Int) < (l.length : Int) := by omega
        by_cases hxy : x = y
        · subst hxy
          have S2 : Hid (∀ i, i < k + 1 → l.getD i false = l'.getD i false) := S.out rfl
          clear S D2
          go_wp2_with fail
          go_quiet (fail)
          go_wp2_with fail
          exact ⟨⟨k + 1, by omega, by go_num, S2, _, rfl⟩, by simp [intOf]; omega⟩
        · have hz := D2.out hxy
          subst hz
          obtain rfl : x = !y := by cases x <;> cases y <;> simp_all
          clear S D2 hxy
          go_wp2_with fail
          go_quiet (fail)
          rename_i nq
          go_wp2_with fail
          go_ret
          exact ⟨rfl, m + nq, by simp [World.drewN, Nat.add_assoc]⟩
      · obtain rfl : k = l.length := by omega
        have hz := E.out hsame.out
        subst hz
        clear D E hsame
        go_wp2_with fail
        go_ret
        exact ⟨rfl, _, rfl⟩
  · have hz : decide (l = l') = false := by simpa using fun e => hn (by rw [e])
    rw [hz]
    have hn' : ((l.length : Int) != (l'.length : Int)) = true := by simp; omega
    clear hr hr' hz
    go_enter Try.func36, Try.ntmps36
    go_wp2
    go_ret
    exact ⟨rfl, 0, rfl⟩

theorem valsTo_pre (gs : List Gt) (ins : List Bool) (k : Nat) : ∀ n, k ≤ n → ∃ l2, valsTo gs ins n = valsTo gs ins k ++ l2
  | 0, h => ⟨[], by rw [show k = 0 by omega]; simp⟩
  | n + 1, h => by
    rcases Nat.lt_or_ge n k with h1 | h1
    · exact ⟨[], by rw [show k = n + 1 by omega]; simp⟩
    · obtain ⟨l2, e⟩ := valsTo_pre gs ins k n h1
      exact ⟨l2 ++ [gateB (valsTo gs ins n) (gs.getD n gz)], by show valsTo gs ins n ++ _ = _; rw [e, List.append_assoc, ← e]⟩
theorem vals_head (gs : List Gt) (ins : List Bool) (n : Nat) : (valsTo gs ins n).getD 0 false = true := by
  obtain ⟨l2, e⟩ := valsTo_pre gs ins 0 n (Nat.zero_le _)
  rw [e]; rfl
theorem vals_in (gs : List Gt) (ins : List Bool) (n i : Nat) (h : i < ins.length) : (valsTo gs ins n).getD (1 + i) false = ins.getD i false := by
  obtain ⟨l2, e⟩ := valsTo_pre gs ins 0 n (Nat.zero_le _)
  rw [e, show 1 + i = i + 1 by omega]
  show ((true :: ins) ++ l2).getD (i + 1) false = _
  simp [List.getD_eq_getElem?_getD, List.getElem?_append_left h]
theorem vals_gate (gs : List Gt) (ins : List Bool) (n k : Nat) (h : k < n) : (valsTo gs ins n).getD (1 + ins.length + k) false = gateB (valsTo gs ins k) (gs.getD k gz) := by
  obtain ⟨l2, e⟩ := valsTo_pre gs ins (k + 1) n h
  have hl := valsTo_len gs ins k
  rw [e]
  show ((valsTo gs ins k ++ [gateB (valsTo gs ins k) (gs.getD k gz)]) ++ l2).getD (1 + ins.length + k) false = _
  rw [List.getD_eq_getElem?_getD, List.append_assoc, List.getElem?_append_right (by omega), hl]
  simp
theorem nlit_pre {l l2 : List Bool} {x : Int} (h0 : -(l.length : Int) ≤ x) (h1 : x ≤ l.length) : nlit (l ++ l2) x = nlit l x := by
  unfold nlit
  by_cases c : 0 < x
  · rw [if_pos c, if_pos c, if_pos (by simp; omega), if_pos h1]
    rw [List.getD_eq_getElem?_getD, List.getD_eq_getElem?_getD, List.getElem?_append_left (by omega)]
  · rw [if_neg c, if_neg c]
    by_cases d : x < 0
    · rw [if_pos ⟨d, by simp; omega⟩, if_pos ⟨d, h0⟩]
      rw [List.getD_eq_getElem?_getD, List.getD_eq_getElem?_getD, List.getElem?_append_left (by omega)]
    · rw [if_neg (fun c2 => d c2.1), if_neg (fun c2 => d c2.1)]
theorem gate_full {m : Int} {gs : List Gt} {ins : List Bool} (hn : NetIn m gs) (hl : (ins.length : Int) = m) {k : Nat} (hk : k < gs.length) :
    (valsTo gs ins gs.length).getD (1 + ins.length + k) false = (if (gs.getD k gz).1 then (nlit (valsTo gs ins gs.length) (gs.getD k gz).2.1 != nlit (valsTo gs ins gs.length) (gs.getD k gz).2.2) else (nlit (valsTo gs ins gs.length) (gs.getD k gz).2.1 && nlit (valsTo gs ins gs.length) (gs.getD k gz).2.2)) := by
  rw [vals_gate gs ins _ k hk]
  obtain ⟨l2, e⟩ := valsTo_pre gs ins k gs.length (by omega)
  obtain ⟨q1, q2, q3, q4, _⟩ := (hn.2 k hk).1
  have hlen := valsTo_len gs ins k
  rw [e, nlit_pre (by omega) (by omega), nlit_pre (by omega) (by omega)]
  rfl

theorem bools_row {w : World} {a : Option Addr} {n c : Nat} {l : List Bool} (h : Bools w (.slice a n c) l) (hl : 0 < l.length) : ∃ b off, a = some ⟨b, off, none⟩ ∧ ∀ i, i < l.length → w.cell? ⟨b, off + i, none⟩ = some (.bool (l.getD i false)) := by
  obtain ⟨a', c', e, _, _, h3⟩ := h
  cases e
  rcases h3 with h3 | ⟨b, off, e, _, hc⟩
  · omega
  · exact ⟨b, off, e, hc⟩

set_option linter.unusedVariables false in
set_option maxRecDepth 100000 in
set_option maxHeartbeats 16000000 in
theorem walk_FnNetVals (v : Value) {w : World} (h : BytesIn w v) :
    Calls Try.prog 10 #[v] w fun e w' => e = .returned (.bool true) ∧ Below w.heap.size w w' := by
  obtain ⟨a0, len, cp, rfl⟩ : ∃ a len cap, v = .slice a len cap := by
    rcases h with ⟨a, c, rfl⟩ | ⟨b, off, len, cap, rfl, _⟩ <;> exact ⟨_, _, _, rfl⟩
  by_cases hb : (1048576 : Int) < len
  · go_enter Try.func10, Try.ntmps10
    go_wp2_with fail
    go_ret
    exact ⟨rfl, Below.refl _ _⟩
  go_enter Try.func10, Try.ntmps10
  go_wp2_with fail
  refine (drawNetVals_any _ _ h).mono ?_
  rintro e w1 ⟨m, gs, a, c, ua, uc, l, rfl, m0, m9, own, wf, hl13, ob, hl9, K⟩
  clear h
  have hG := own.gates
  have nG := nilOrB_own own
  have hU := Bools.of_own ob
  have nU := nilOrB_own ob
  obtain ⟨z, hz⟩ : ∃ z, z = netV m gs := ⟨_, rfl⟩
  obtain ⟨r, her⟩ : ∃ r, r = netVals m gs l := ⟨_, rfl⟩
  have V1 : Hid (∀ w', Gates w' (.slice a gs.length c) gs → Bools w' (.slice ua l.length uc) l → Calls Try.prog 26 #[.agg #[.int .i64 m, .slice a gs.length c], .slice ua l.length uc] w' (NewBools r w')) := fun w' h1 h2 => by rw [her]; exact netVals_impl m _ gs _ l w' h1 nG wf h2 nU
  have V2 : Hid (∀ w', Gates w' (.slice a gs.length c) gs → Bools w' (.slice ua l.length uc) l → Calls Try.prog 25 #[.agg #[.int .i64 m, .slice a gs.length c], .slice ua l.length uc] w' (NewBools r w')) := fun w' h1 h2 => by rw [her]; exact netVals_spec m _ gs _ l w' h1 h2 nU
  have O1 : Hid (∀ w', Gates w' (.slice a gs.length c) gs → Calls Try.prog 23 #[.agg #[.int .i64 m, .slice a gs.length c]] w' (fun e w2 => e = .returned (.bool z) ∧ Below w'.heap.size w' w2)) := fun w' h1 => by rw [hz]; exact netOk_impl m _ gs w' h1 nG wf
  have O2 : Hid (∀ w', Gates w' (.slice a gs.length c) gs → Calls Try.prog 22 #[.agg #[.int .i64 m, .slice a gs.length c]] w' (fun e w2 => e = .returned (.bool z) ∧ Below w'.heap.size w' w2)) := fun w' h1 => by rw [hz]; exact netOk_spec m _ gs w' h1
  have WB : Hid (∀ x y w', Bools w' x r → Bools w' y r → Calls Try.prog 36 #[x, y] w' (fun e w2 => e = .returned (.bool true) ∧ Below w'.heap.size w' w2)) := fun x y w' h1 h2 => (wpBools_any x y r r w' h1 h2).mono (by rintro e w2 ⟨rfl, n, rfl⟩; exact ⟨by simp, below_drewN (Below.refl _ _) n⟩)
  have HZ := Lib.hid hz; have HR := Lib.hid her
  have WF := Lib.hid wf
  clear hz her wf own ob nG nU
  replace hG := hG.below (below_self_alloc w1 (.cells #[.int .i64 m, .slice a gs.length c] 39))
  replace hU := hU.below (below_self_alloc w1 (.cells #[.int .i64 m, .slice a gs.length c] 39))
  replace K := below_step K (.cells #[.int .i64 m, .slice a gs.length c] 39)
  have A := blk_new w1 (.int .i64 m) (.slice a gs.length c) 39
  obtain ⟨A0, A1, A2⟩ := A.cells
  go_wp2_with fail
  refine (V1.out _ hG hU).mono ?_; rintro e w2 ⟨v5, rfl, o5, hb⟩
  clear A0 A1 A2
  replace A := A.keep hb
  replace hG := hG.below hb
  replace hU := hU.below hb
  replace K := below_two K hb
  clear hb
  have hV := Bools.of_own o5
  clear o5
  obtain ⟨va, vc, rfl⟩ := Bools.form hV
  obtain ⟨A0, A1, A2⟩ := A.cells
  go_upto_region 5 with fail
  clear A0 A1 A2
  replace A := A.drew
  replace hG := hG.drew
  replace hU := hU.drew
  replace hV := hV.drew
  replace K := K.drew
  have sS := And.intro A.cells.1 (A.cells.2.1)
  first
    | (go_region_held3 (fun wx : World => (wx.cell? ⟨w1.heap.size, 0, none⟩ = some (.int .i64 m) ∧ wx.cell? ⟨w1.heap.size, 1, none⟩ = some (.slice a gs.length c))) (first | (with_reducible assumption)) (first | (go_at_call 25; (with_reducible refine (V2.out _ hG hU).mono ?_); rintro e w3 ⟨sv, rfl, sown, hb⟩; replace A := A.keep hb; replace hG := hG.below hb; replace hU := hU.below hb; replace hV := hV.below hb; replace K := below_two K hb; clear hb; have hS := Bools.of_own sown; clear sown; replace sS := And.intro A.cells.1 (A.cells.2.1)) | (go_at_call 36; (with_reducible refine (WB.out _ _ _ hV hS).mono ?_); rintro e w3 ⟨rfl, hb⟩; replace A := A.keep hb; replace hG := hG.below hb; replace hU := hU.below hb; replace hV := hV.below hb; replace hS := hS.below hb; replace K := below_two K hb; clear hb; replace sS := And.intro A.cells.1 (A.cells.2.1)) | (go_at_call 23; (with_reducible refine (O1.out _ hG).mono ?_); rintro e w3 ⟨rfl, hb⟩; replace A := A.keep hb; replace hG := hG.below hb; replace hU := hU.below hb; replace hV := hV.below hb; replace hS := hS.below hb; replace K := below_two K hb; clear hb; replace sS := And.intro A.cells.1 (A.cells.2.1)) | (go_at_call 22; (with_reducible refine (O2.out _ hG).mono ?_); rintro e w3 ⟨rfl, hb⟩; replace A := A.keep hb; replace hG := hG.below hb; replace hU := hU.below hb; replace hV := hV.below hb; replace hS := hS.below hb; replace K := below_two K hb; clear hb; replace sS := And.intro A.cells.1 (A.cells.2.1))))
    | fail
  clear sS
  obtain ⟨A0, A1, A2⟩ := A.cells
  go_wp2_with fail
  clear V1 V2 O1 WB
  refine (O2.out _ hG).mono ?_; rintro e w4 ⟨rfl, hb⟩
  clear A0 A1 A2
  replace A := A.keep hb
  replace hG := hG.below hb
  replace hU := hU.below hb
  replace hV := hV.below hb
  replace hS := hS.below hb
  replace K := below_two K hb
  clear hb
  obtain ⟨A0, A1, A2⟩ := A.cells
  clear O2
  have hr := hV.len
  have hlu := hU.len
  cases z
  · obtain rfl : r = [] := by rw [HR.out]; exact netVals_bad (.inl HZ.out.symm)
    go_wp2_with fail
    go_ret
    exact ⟨rfl, K⟩
  by_cases hm : (l.length : Int) = m
  · have hn := netV_true.1 HZ.out.symm
    have e2 : r = valsTo gs l gs.length := by rw [HR.out]; unfold netVals; rw [if_pos ⟨HZ.out.symm, hm⟩]
    have hlen : r.length = 1 + l.length + gs.length := by rw [e2]; exact valsTo_len _ _ _
    have HIN : Hid (∀ i, i < l.length → r.getD (1 + i) false = l.getD i false) := fun i hi => by rw [e2]; exact vals_in gs l _ i hi
    have HGT : Hid (∀ k, k < gs.length → r.getD (1 + l.length + k) false = (if (gs.getD k gz).1 then (nlit r (gs.getD k gz).2.1 != nlit r (gs.getD k gz).2.2) else (nlit r (gs.getD k gz).2.1 && nlit r (gs.getD k gz).2.2))) := fun k hk => by rw [e2]; exact gate_full hn hm hk
    have HG0 : Hid (r.getD 0 false = true) := by rw [e2]; exact vals_head _ _ _
    have HBD : Hid (∀ k, k < gs.length → -1000 ≤ (gs.getD k gz).2.1 ∧ (gs.getD k gz).2.1 ≤ 1000 ∧ -1000 ≤ (gs.getD k gz).2.2 ∧ (gs.getD k gz).2.2 ≤ 1000) := fun k hk => by
      obtain ⟨q1, q2, q3, q4, _⟩ := (hn.2 k hk).1
      exact ⟨by omega, by omega, by omega, by omega⟩
    clear e2 hn
    have HLEN := Lib.hid hlen
    subst hm
    have hlr1 : 1 + l.length + gs.length ≤ r.length := by omega
    have hlr2 : r.length ≤ 1 + l.length + gs.length := by omega
    clear hlen
    have CL := fun (x : Int) (w' : World) (hx : Bools w' (.slice va r.length vc) r) (x0 : -1000 ≤ x) (x1 : x ≤ 1000) => netLit_impl (.slice va r.length vc) r x w' hx (by omega) (by omega)
    replace CL := Lib.hid CL
    obtain ⟨X, hX⟩ : ∃ X, X = w4 := ⟨_, rfl⟩
    go_upto_region 9 with fail
    rw [← hX] at A hG hU hV K A0 A1 A2 ⊢
    clear hX HZ HR WF
    obtain ⟨rb, ro, rfl, hrow⟩ := bools_row hV (by omega)
    have HROW := Lib.hid hrow
    clear hrow
    go_wp2_with fail
    go_loopw [6] (fun i wr => ∃ k n : Nat, i = .int .i64 k ∧ k ≤ l.length ∧ wr = X.drewN n) (fun i _ => l.length - (intOf i).toNat)
    case atStart => exact ⟨0, 0, rfl, Nat.zero_le _, rfl⟩
    case round =>
      obtain ⟨k, n, rfl, hk, rfl⟩ := hrel
      by_cases hlt : k < l.length
      · obtain ⟨ub, uo, rfl, urow⟩ := bools_row hU (by omega)
        have g1 := urow k hlt
        have g2 := HROW.out (1 + k) (by omega)
        rw [HIN.out k hlt] at g2
        obtain ⟨j, hj⟩ : ∃ j, j = 1 + k := ⟨_, rfl⟩
        have hw : IntKind.i64.wrap (1 + (k : Int)) = (j : Int) := by rw [hj]; push_cast; exact IntWalk.i64_in _ (by omega)
        rw [← hj] at g2
        have j0 : (0 : Int) ≤ (j : Int) := by omega
        have j1 : (j : Int) < (r.length : Int) := by omega
        have k0 : (0 : Int) ≤ (k : Int) := by omega
        have k1 : (k : Int) < (l.length : Int) := by omega
        clear urow hj
        generalize l.getD k false = y at g1 g2
        go_wp2_with fail
        go_quiet (fail)
        go_wp2_with fail
        exact ⟨⟨k + 1, _, by go_num, by omega, rfl⟩, by simp [intOf]; omega⟩
      · obtain rfl : k = l.length := by omega
        clear hk hlt HIN
        go_wp2_with fail
        go_loopw [7] (fun i wr => ∃ k n : Nat, i = .int .i64 k ∧ k ≤ gs.length ∧ wr = X.drewN n) (fun i _ => gs.length - (intOf i).toNat)
        case atStart => exact ⟨0, n, rfl, Nat.zero_le _, rfl⟩
        case round =>
          obtain ⟨k, n, rfl, hk, rfl⟩ := hrel
          by_cases hlt : k < gs.length
          · obtain ⟨b', off', rfl, _, f5, f6, f7⟩ := hG.row.three hlt
            have k0 : (0 : Int) ≤ (k : Int) := by omega
            have k1 : (k : Int) < (gs.length : Int) := by omega
            obtain ⟨bd0, bd1, bd2, bd3⟩ := HBD.out k hlt
            have hgk := HGT.out k hlt
            have g2 := HROW.out (1 + l.length + k) (by omega)
            rw [hgk] at g2
            clear hgk
            generalize gs.getD k gz = y at f5 f6 f7 bd0 bd1 bd2 bd3 g2
            obtain ⟨x0, x1, x2⟩ := y
            dsimp only at f5 f6 f7 bd0 bd1 bd2 bd3 g2
            have C1 := Lib.hid (fun n' => CL.out x1 (X.drewN n') hV (by omega) (by omega))
            have C2 := Lib.hid (fun n' => CL.out x2 (X.drewN n') hV (by omega) (by omega))
            generalize nlit r x1 = ya at C1 g2
            generalize nlit r x2 = yb at C2 g2
            obtain ⟨j, hj⟩ : ∃ j, j = 1 + l.length + k := ⟨_, rfl⟩
            have hw1 : IntKind.i64.wrap (1 + (l.length : Int)) = 1 + (l.length : Int) := IntWalk.i64_in _ (by omega)
            have hw2 : IntKind.i64.wrap (1 + (l.length : Int) + (k : Int)) = (j : Int) := by rw [hj]; push_cast; exact IntWalk.i64_in _ (by omega)
            rw [← hj] at g2
            have j0 : (0 : Int) ≤ (j : Int) := by omega
            have j1 : (j : Int) < (r.length : Int) := by omega
            clear hj
            go_wp2_with fail
            refine (C1.out n).mono ?_; rintro e w2 ⟨rfl, q2, rfl⟩
            go_wp2_with fail
            refine (C2.out (n + q2)).mono ?_; rintro e w3 ⟨rfl, q3, rfl⟩
            clear C1 C2
            cases x0 <;> cases ya <;> cases yb <;> (first | replace g2 : X.cell? ⟨rb, ro + j, none⟩ = some (.bool true) := g2 | replace g2 : X.cell? ⟨rb, ro + j, none⟩ = some (.bool false) := g2)
            all_goals
              go_wp2_with fail
              go_quiet (fail)
              go_wp2_with fail
              exact ⟨⟨k + 1, _, by go_num, by omega, rfl⟩, by simp [intOf]; omega⟩
          · obtain rfl : k = gs.length := by omega
            have g2 := HROW.out 0 (by omega)
            rw [HG0.out, Nat.add_zero] at g2
            have hw1 : IntKind.i64.wrap (1 + (l.length : Int)) = 1 + (l.length : Int) := IntWalk.i64_in _ (by omega)
            have hw2 : IntKind.i64.wrap (1 + (l.length : Int) + (gs.length : Int)) = 1 + (l.length : Int) + (gs.length : Int) := IntWalk.i64_in _ (by omega)
            have hr0 : (0 : Int) < (r.length : Int) := by omega
            have hre : ((r.length : Int) == 1 + (l.length : Int) + (gs.length : Int)) = true := by simp; omega
            have K2 := below_drewN K n
            go_wp2_with fail
            go_ret
            exact ⟨rfl, K2⟩
  · have dm : ((l.length : Int) != m) = true := by simpa using hm
    obtain rfl : r = [] := by rw [HR.out]; exact netVals_bad (.inr hm)
    go_wp2_with fail
    go_ret
    exact ⟨rfl, K⟩
end Go.Proofs.Yteeaafdgkepaeaa
