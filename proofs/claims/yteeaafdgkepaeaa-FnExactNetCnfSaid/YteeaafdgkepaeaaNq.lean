/- Right nets: in plain Lean; NetOk of the reference. The conditions stand in each statement. -/
import Derived.Test.YteeaafdgkepaeaaNs
import Derived.Test.YteeaafdgkepaeaaNl
namespace Go.Proofs.Yteeaafdgkepaeaa
open Go.RowKit

def gOk (most : Int) (g : Gt) : Prop := -most ≤ g.2.1 ∧ g.2.1 ≤ most ∧ -most ≤ g.2.2 ∧ g.2.2 ≤ most ∧ 2 ≤ mabs g.2.1 ∧ mabs g.2.1 < mabs g.2.2 ∧ ¬ (g.1 = true ∧ (g.2.1 < 0 ∨ g.2.2 < 0))
def freshG (gs : List Gt) (k : Nat) : Prop := ∀ i, i < k → gs.getD i gz ≠ gs.getD k gz
def GateIn (m : Int) (gs : List Gt) (k : Nat) : Prop := gOk (1 + m + k) (gs.getD k gz) ∧ freshG gs k
def NetIn (m : Int) (gs : List Gt) : Prop := (0 ≤ m ∧ m ≤ 8 ∧ gs.length ≤ 600) ∧ ∀ k, k < gs.length → GateIn m gs k
open Classical in
noncomputable def gateV (m : Int) (gs : List Gt) (k : Nat) : Bool := decide (GateIn m gs k)
open Classical in
noncomputable def netV (m : Int) (gs : List Gt) : Bool := decide (NetIn m gs)
theorem gateV_true {m : Int} {gs : List Gt} {k : Nat} : gateV m gs k = true ↔ GateIn m gs k := by unfold gateV; simp
theorem gateV_false {m : Int} {gs : List Gt} {k : Nat} : gateV m gs k = false ↔ ¬ GateIn m gs k := by unfold gateV; simp
theorem netV_true {m : Int} {gs : List Gt} : netV m gs = true ↔ NetIn m gs := by unfold netV; simp
theorem netV_false {m : Int} {gs : List Gt} : netV m gs = false ↔ ¬ NetIn m gs := by unfold netV; simp

theorem drewRet_at0 {P : Program} {f : FuncId} {args : Array Value} {w : World} {v : Value} (C : ∀ j, Calls P f args (w.drewN j) (DrewRet v (w.drewN j))) (x : Nat) :
    Calls P f args (w.drewN x) fun e w'' => e = .returned v ∧ ∃ n, w'' = w.drewN n :=
  (C x).mono fun _ _ ⟨he, k, hk⟩ => ⟨he, x + k, by rw [hk, World.drewN_drewN]⟩
theorem mabs_le' {m n : Int} (h0 : -n ≤ m) (h1 : m ≤ n) : 0 ≤ mabs m ∧ mabs m ≤ n := by
  unfold mabs; split <;> omega
theorem absS_any (m : Int) (w : World) (h0 : -9223372036854775807 ≤ m) (h1 : m ≤ 9223372036854775807) :
    Calls Try.prog 67 #[.int .i64 m] w (DrewRet (.int .i64 (mabs m)) w) := by
  by_cases h : m < 0
  · have e : mabs m = -m := by simp [mabs, h]
    rw [e]; clear e
    go_enter Try.func67, Try.ntmps67
    go_wp2
    go_ret
    exact ⟨rfl, 0, rfl⟩
  · have e : mabs m = m := by simp [mabs, h]
    rw [e]; clear e
    go_enter Try.func67, Try.ntmps67
    go_wp2
    go_ret
    exact ⟨rfl, 0, rfl⟩

set_option maxRecDepth 100000 in
set_option maxHeartbeats 8000000 in
theorem l6Gate_any (m : Int) (v : Value) (gs : List Gt) (k : Nat) (w : World) (h : Gates w v gs) (hk : k < gs.length) (m0 : 0 ≤ m) (m8 : m ≤ 8) (h6 : gs.length ≤ 600) :
    Calls Try.prog 50 #[.agg #[.int .i64 m, v], .int .i64 k] w fun e w' => e = .returned (.bool (gateV m gs k)) ∧ Below w.heap.size w w' := by
  obtain ⟨z, hz⟩ : ∃ z, z = gateV m gs k := ⟨_, rfl⟩
  rw [← hz]
  have HZ := Lib.hid hz
  clear hz
  have hb : ∀ x0 x1 x2 : Value, Below w.heap.size w ((w.alloc (.cells #[.int .i64 m, v] 39)).alloc (.cells #[x0, x1, x2] 47)) := fun _ _ _ => below_res (Below.refl _ _)
  obtain ⟨most, hmost⟩ : ∃ q, q = 1 + m + (k : Int) := ⟨_, rfl⟩
  have p0 : 1 ≤ most := by omega
  have p1 : most ≤ 700 := by omega
  have pw : IntKind.i64.wrap (-most) = -most := IntWalk.i64_in _ (by omega)
  have H0 := h
  obtain ⟨a, cap, rfl, hr⟩ := h
  obtain ⟨b, off, rfl, g4, g5, g6, g7⟩ := (hr.below (below_self_alloc w (.cells #[.int .i64 m, .slice a gs.length cap] 39))).three hk
  obtain ⟨x, hx⟩ : ∃ x, x = gs.getD k gz := ⟨_, rfl⟩
  rw [← hx] at g5 g6 g7
  have HG : Hid (gateV m gs k = true ↔ gOk most x ∧ freshG gs k) := by
    show gateV m gs k = true ↔ gOk most x ∧ freshG gs k
    rw [gateV_true, GateIn, ← hx, ← hmost]
  have HX := Lib.hid hx
  clear hx
  obtain ⟨x0, x1, x2⟩ := x
  dsimp only at g5 g6 g7
  have hk0 : (0 : Int) ≤ (k : Int) := by omega
  have hk1 : (k : Int) < (gs.length : Int) := by omega
  replace hb := hb (.bool x0) (.int .i64 x1) (.int .i64 x2)
  have hr2 := hr.below hb
  clear hr H0
  have N0 : ¬ gOk most (x0, x1, x2) → z = false := fun hn => by
    rw [HZ.out]
    cases e : gateV m gs k
    · rfl
    · exact absurd (HG.out.1 e).1 hn
  have NN := Lib.hid N0
  clear N0

  by_cases q0 : x1 < -most
  · obtain rfl : z = false := NN.out (fun hg => by unfold gOk at hg; dsimp only at hg; omega)
    have e0 : decide (x1 < -most) = true := by simpa using q0
    clear HZ HG HX NN hr2
    go_enter Try.func50, Try.ntmps50
    go_wp2_with fail
    rw [← hmost]
    clear hmost
    go_quiet (fail)
    go_wp2_with fail
    go_ret
    exact ⟨rfl, below_drewN hb _⟩
  by_cases q1 : most < x1
  · obtain rfl : z = false := NN.out (fun hg => by unfold gOk at hg; dsimp only at hg; omega)
    have e0 : decide (x1 < -most) = false := by simpa using q0
    have e1 : decide (most < x1) = true := by simpa using q1
    clear HZ HG HX NN hr2
    go_enter Try.func50, Try.ntmps50
    go_wp2_with fail
    rw [← hmost]
    clear hmost
    go_quiet (fail)
    go_wp2_with fail
    go_ret
    exact ⟨rfl, below_drewN hb _⟩
  by_cases q2 : x2 < -most
  · obtain rfl : z = false := NN.out (fun hg => by unfold gOk at hg; dsimp only at hg; omega)
    have e0 : decide (x1 < -most) = false := by simpa using q0
    have e1 : decide (most < x1) = false := by simpa using q1
    have e2 : decide (x2 < -most) = true := by simpa using q2
    clear HZ HG HX NN hr2
    go_enter Try.func50, Try.ntmps50
    go_wp2_with fail
    rw [← hmost]
    clear hmost
    go_quiet (fail)
    go_wp2_with fail
    go_ret
    exact ⟨rfl, below_drewN hb _⟩
  by_cases q3 : most < x2
  · obtain rfl : z = false := NN.out (fun hg => by unfold gOk at hg; dsimp only at hg; omega)
    have e0 : decide (x1 < -most) = false := by simpa using q0
    have e1 : decide (most < x1) = false := by simpa using q1
    have e2 : decide (x2 < -most) = false := by simpa using q2
    have e3 : decide (most < x2) = true := by simpa using q3
    clear HZ HG HX NN hr2
    go_enter Try.func50, Try.ntmps50
    go_wp2_with fail
    rw [← hmost]
    clear hmost
    go_quiet (fail)
    go_wp2_with fail
    go_ret
    exact ⟨rfl, below_drewN hb _⟩
  have hA := mabs_le' (m := x1) (n := most) (by omega) (by omega)
  have hB := mabs_le' (m := x2) (n := most) (by omega) (by omega)
  have CA : Hid (∀ j, Calls Try.prog 67 #[.int .i64 x1] ((((w.alloc (.cells #[.int .i64 m, .slice (some ⟨b, off, none⟩) gs.length cap] 39)).alloc (.cells #[.bool x0, .int .i64 x1, .int .i64 x2] 47)).drewN j)) (DrewRet (.int .i64 (mabs x1)) ((((w.alloc (.cells #[.int .i64 m, .slice (some ⟨b, off, none⟩) gs.length cap] 39)).alloc (.cells #[.bool x0, .int .i64 x1, .int .i64 x2] 47)).drewN j)))) := fun j => absS_any x1 _ (by omega) (by omega)
  have CB : Hid (∀ j, Calls Try.prog 67 #[.int .i64 x2] ((((w.alloc (.cells #[.int .i64 m, .slice (some ⟨b, off, none⟩) gs.length cap] 39)).alloc (.cells #[.bool x0, .int .i64 x1, .int .i64 x2] 47)).drewN j)) (DrewRet (.int .i64 (mabs x2)) ((((w.alloc (.cells #[.int .i64 m, .slice (some ⟨b, off, none⟩) gs.length cap] 39)).alloc (.cells #[.bool x0, .int .i64 x1, .int .i64 x2] 47)).drewN j)))) := fun j => absS_any x2 _ (by omega) (by omega)
  have HGA : Hid (gOk most (x0, x1, x2) ↔ 2 ≤ mabs x1 ∧ mabs x1 < mabs x2 ∧ ¬ (x0 = true ∧ (x1 < 0 ∨ x2 < 0))) := by
    show gOk most (x0, x1, x2) ↔ 2 ≤ mabs x1 ∧ mabs x1 < mabs x2 ∧ ¬ (x0 = true ∧ (x1 < 0 ∨ x2 < 0))
    unfold gOk; dsimp only
    exact ⟨fun hg => hg.2.2.2.2, fun hg => ⟨by omega, by omega, by omega, by omega, hg⟩⟩
  generalize mabs x1 = y1 at *
  generalize mabs x2 = y2 at *
  have e0 : decide (x1 < -most) = false := by simpa using q0
  have e1 : decide (most < x1) = false := by simpa using q1
  have e2 : decide (x2 < -most) = false := by simpa using q2
  have e3 : decide (most < x2) = false := by simpa using q3
  by_cases q4 : y1 < 2
  · obtain rfl : z = false := NN.out (fun hg => by have := HGA.out.1 hg; omega)
    have e4 : decide (y1 < 2) = true := by simpa using q4
    clear HZ HG HX NN hr2 HGA
    go_enter Try.func50, Try.ntmps50
    go_wp2_with fail
    rw [← hmost]
    clear hmost
    go_quiet ((go_at_call 67; (first | exact drewRet_at0 CA.out _ | exact drewRet_at0 CB.out _)))
    go_wp2_with fail
    go_ret
    exact ⟨rfl, below_drewN hb _⟩
  by_cases q5 : y2 ≤ y1
  · obtain rfl : z = false := NN.out (fun hg => by have := HGA.out.1 hg; omega)
    have e4 : decide (y1 < 2) = false := by simpa using q4
    have e5 : decide (y2 ≤ y1) = true := by simpa using q5
    clear HZ HG HX NN hr2 HGA
    go_enter Try.func50, Try.ntmps50
    go_wp2_with fail
    rw [← hmost]
    clear hmost
    go_quiet ((go_at_call 67; (first | exact drewRet_at0 CA.out _ | exact drewRet_at0 CB.out _)))
    go_wp2_with fail
    go_ret
    exact ⟨rfl, below_drewN hb _⟩
  have e4 : decide (y1 < 2) = false := by simpa using q4
  have e5 : decide (y2 ≤ y1) = false := by simpa using q5
  by_cases hx : x0 = true ∧ (x1 < 0 ∨ x2 < 0)
  · obtain rfl : z = false := NN.out (fun hg => (HGA.out.1 hg).2.2 hx)
    obtain ⟨rfl, hx⟩ := hx
    clear HZ HG HX NN HGA
    by_cases hx1 : x1 < 0
    · clear hr2

      go_enter Try.func50, Try.ntmps50
      go_wp2_with fail
      rw [← hmost]
      clear hmost
      go_quiet ((go_at_call 67; (first | exact drewRet_at0 CA.out _ | exact drewRet_at0 CB.out _)))
      go_wp2_with fail
      go_ret
      exact ⟨rfl, below_drewN hb _⟩
    · have hx2 : x2 < 0 := by omega
      clear hr2 hx
      go_enter Try.func50, Try.ntmps50
      go_wp2_with fail
      rw [← hmost]
      clear hmost
      go_quiet ((go_at_call 67; (first | exact drewRet_at0 CA.out _ | exact drewRet_at0 CB.out _)))
      go_wp2_with fail
      go_ret
      exact ⟨rfl, below_drewN hb _⟩
  · have hgo : gOk most (x0, x1, x2) := HGA.out.2 ⟨by omega, by omega, hx⟩
    have HZ2 : Hid (z = true ↔ freshG gs k) := by
      show z = true ↔ freshG gs k
      rw [HZ.out, HG.out]; exact ⟨fun h => h.2, fun h => ⟨hgo, h⟩⟩
    clear HZ HG NN HGA hgo
    have J : x0 = false ∨ (x0 = true ∧ ¬ x1 < 0 ∧ ¬ x2 < 0) := by
      cases x0
      · exact .inl rfl
      · exact .inr ⟨rfl, by simp at hx; omega, by simp at hx; omega⟩
    clear hx
    have g57 := And.intro g5 (And.intro g6 g7)
    clear g5 g6 g7
    obtain ⟨bW, hbW⟩ : ∃ q, q = w.heap.size := ⟨_, rfl⟩
    rcases J with rfl | ⟨rfl, n1, n2⟩
    · obtain ⟨g5, g6, g7⟩ := g57
      go_enter Try.func50, Try.ntmps50
      go_wp2_with fail
      rw [← hmost]
      clear hmost
      go_quiet ((go_at_call 67; (first | exact drewRet_at0 CA.out _ | exact drewRet_at0 CB.out _)))
      go_wp2_with fail
      go_loopw [7] (fun i wr => ∃ j : Nat, j ≤ k ∧ i = .int .i64 j ∧ Hid (∀ i, i < j → gs.getD i gz ≠ gs.getD k gz) ∧ ∃ q, wr = ((w.alloc (.cells #[.int .i64 m, .slice (some ⟨b, off, none⟩) gs.length cap] 39)).alloc (.cells #[.bool false, .int .i64 x1, .int .i64 x2] 47)).drewN q) (fun i _ => k - (intOf i).toNat)
      case atStart => exact ⟨0, Nat.zero_le _, rfl, fun i hi => absurd hi (by omega), _, rfl⟩
      case round =>
        obtain ⟨j, hj, rfl, hpre, q, rfl⟩ := hrel
        by_cases hlt : j < k
        · obtain ⟨b', off', e, _, f5, f6, f7⟩ := hr2.three (k := j) (by omega)
          cases e
          have hj0 : (0 : Int) ≤ (j : Int) := by omega
          have hj1 : (j : Int) < (gs.length : Int) := by omega
          have S : Hid (gs.getD j gz ≠ (false, x1, x2) → ∀ i, i < j + 1 → gs.getD i gz ≠ gs.getD k gz) := fun h i hi => by
            rcases Nat.lt_or_ge i j with h1 | h1
            · exact hpre.out i h1
            · rw [show i = j by omega, ← HX.out]; exact h
          have F : Hid (gs.getD j gz = gs.getD k gz → z = false) := fun h => by
            cases hz : z
            · rfl
            · exact absurd h (HZ2.out.1 hz j hlt)
          rw [← HX.out] at F
          clear hr2 hpre HZ2 HX
          generalize gs.getD j gz = y at *
          obtain ⟨t0, t1, t2⟩ := y
          dsimp only at f5 f6 f7
          by_cases hxy : ((t0, t1, t2) : Gt) = (false, x1, x2)
          · obtain rfl : z = false := F.out hxy
            obtain ⟨rfl, rfl, rfl⟩ : t0 = false ∧ t1 = x1 ∧ t2 = x2 := by simpa using hxy
            clear S F hxy CA CB
            go_wp2_with fail
            go_quiet (fail)
            go_wp2_with fail
            go_ret
            exact ⟨rfl, below_drewN (below_drewN hb _) _⟩
          · have S2 := Lib.hid (S.out hxy)
            clear S F CA CB
            rcases gate_ne hxy with rfl | ⟨rfl, q1, q2⟩ | ⟨rfl, rfl, q1, q2⟩
            all_goals
              clear hxy
              go_wp2_with fail
              go_quiet (fail)
              go_wp2_with fail
              exact ⟨⟨j + 1, by omega, by go_num, S2.out, _, rfl⟩, by simp [intOf]; omega⟩
        · obtain rfl : j = k := by omega
          obtain rfl : z = true := HZ2.out.2 hpre.out
          clear HZ2 hpre hr2 CA CB
          go_wp2_with fail
          go_ret
          exact ⟨rfl, below_drewN hb _⟩

    · obtain ⟨g5, g6, g7⟩ := g57
      go_enter Try.func50, Try.ntmps50
      go_wp2_with fail
      rw [← hmost]
      clear hmost
      go_quiet ((go_at_call 67; (first | exact drewRet_at0 CA.out _ | exact drewRet_at0 CB.out _)))
      go_wp2_with fail
      go_loopw [7] (fun i wr => ∃ j : Nat, j ≤ k ∧ i = .int .i64 j ∧ Hid (∀ i, i < j → gs.getD i gz ≠ gs.getD k gz) ∧ ∃ q, wr = ((w.alloc (.cells #[.int .i64 m, .slice (some ⟨b, off, none⟩) gs.length cap] 39)).alloc (.cells #[.bool true, .int .i64 x1, .int .i64 x2] 47)).drewN q) (fun i _ => k - (intOf i).toNat)
      case atStart => exact ⟨0, Nat.zero_le _, rfl, fun i hi => absurd hi (by omega), _, rfl⟩
      case round =>
        obtain ⟨j, hj, rfl, hpre, q, rfl⟩ := hrel
        by_cases hlt : j < k
        · obtain ⟨b', off', e, _, f5, f6, f7⟩ := hr2.three (k := j) (by omega)
          cases e
          have hj0 : (0 : Int) ≤ (j : Int) := by omega
          have hj1 : (j : Int) < (gs.length : Int) := by omega
          have S : Hid (gs.getD j gz ≠ (true, x1, x2) → ∀ i, i < j + 1 → gs.getD i gz ≠ gs.getD k gz) := fun h i hi => by
            rcases Nat.lt_or_ge i j with h1 | h1
            · exact hpre.out i h1
            · rw [show i = j by omega, ← HX.out]; exact h
          have F : Hid (gs.getD j gz = gs.getD k gz → z = false) := fun h => by
            cases hz : z
            · rfl
            · exact absurd h (HZ2.out.1 hz j hlt)
          rw [← HX.out] at F
          clear hr2 hpre HZ2 HX
          generalize gs.getD j gz = y at *
          obtain ⟨t0, t1, t2⟩ := y
          dsimp only at f5 f6 f7
          by_cases hxy : ((t0, t1, t2) : Gt) = (true, x1, x2)
          · obtain rfl : z = false := F.out hxy
            obtain ⟨rfl, rfl, rfl⟩ : t0 = true ∧ t1 = x1 ∧ t2 = x2 := by simpa using hxy
            clear S F hxy CA CB
            go_wp2_with fail
            go_quiet (fail)
            go_wp2_with fail
            go_ret
            exact ⟨rfl, below_drewN (below_drewN hb _) _⟩
          · have S2 := Lib.hid (S.out hxy)
            clear S F CA CB
            rcases gate_ne hxy with rfl | ⟨rfl, q1, q2⟩ | ⟨rfl, rfl, q1, q2⟩
            all_goals
              clear hxy
              go_wp2_with fail
              go_quiet (fail)
              go_wp2_with fail
              exact ⟨⟨j + 1, by omega, by go_num, S2.out, _, rfl⟩, by simp [intOf]; omega⟩
        · obtain rfl : j = k := by omega
          obtain rfl : z = true := HZ2.out.2 hpre.out
          clear HZ2 hpre hr2 CA CB
          go_wp2_with fail
          go_ret
          exact ⟨rfl, below_drewN hb _⟩


set_option maxHeartbeats 2000000 in
theorem netOk_spec (m : Int) (v : Value) (gs : List Gt) (w : World) (h : Gates w v gs) :
    Calls Try.prog 22 #[.agg #[.int .i64 m, v]] w fun e w' => e = .returned (.bool (netV m gs)) ∧ Below w.heap.size w w' := by
  have hl := h.len
  have hb := below_self_alloc w (.cells #[.int .i64 m, v] 39)
  have C := blk_new w (.int .i64 m) v 39
  replace h := h.below hb
  obtain ⟨a, cap, rfl⟩ := h.form
  by_cases q0 : m < 0
  · rw [netV_false.2 (fun hn => by have := hn.1; omega)]
    clear h C
    go_enter Try.func22, Try.ntmps22
    go_wp2_with fail
    go_ret
    exact ⟨rfl, hb⟩
  by_cases q1 : 8 < m
  · rw [netV_false.2 (fun hn => by have := hn.1; omega)]
    clear h C
    go_enter Try.func22, Try.ntmps22
    go_wp2_with fail
    go_ret
    exact ⟨rfl, hb⟩
  by_cases q2 : (600 : Int) < gs.length
  · rw [netV_false.2 (fun hn => by have := hn.1; omega)]
    clear h C
    go_enter Try.func22, Try.ntmps22
    go_wp2_with fail
    go_ret
    exact ⟨rfl, hb⟩
  obtain ⟨z, hz⟩ : ∃ z, z = netV m gs := ⟨_, rfl⟩
  rw [← hz]
  have HZ := Lib.hid hz
  clear hz
  go_enter Try.func22, Try.ntmps22
  go_wp2_with fail
  go_loopw [3] (fun i wr => ∃ j : Nat, j ≤ gs.length ∧ i = .int .i64 j ∧ Hid (∀ i, i < j → GateIn m gs i) ∧ Blk wr w.heap.size (.int .i64 m) (.slice a gs.length cap) 39 ∧ Gates wr (.slice a gs.length cap) gs ∧ Below w.heap.size w wr) (fun i _ => gs.length - (intOf i).toNat)
  case atStart => exact ⟨0, Nat.zero_le _, rfl, fun i hi => absurd hi (by omega), C, h, hb⟩
  case round =>
    clear C h hb
    obtain ⟨j, hj, rfl, hpre, C, h, hb⟩ := hrel
    obtain ⟨C0, C1, C2⟩ := C.cells
    by_cases hlt : j < gs.length
    · have hj1 : (j : Int) < (gs.length : Int) := by omega
      have T := Lib.hid (l6Gate_any m _ gs j _ h hlt (by omega) (by omega) (by omega))
      obtain ⟨y, hy⟩ : ∃ y, y = gateV m gs j := ⟨_, rfl⟩
      rw [← hy] at T
      go_wp2_with fail
      refine T.out.mono ?_; rintro e w2 ⟨rfl, hb2⟩
      clear T
      replace hb := below_two hb hb2
      cases y
      · obtain rfl : z = false := by rw [HZ.out, netV_false]; exact fun hn => gateV_false.1 hy.symm (hn.2 j hlt)
        clear hy HZ hpre C0 C1 C2 C h
        go_wp2_with fail
        go_ret
        exact ⟨rfl, hb⟩
      · have hg := gateV_true.1 hy.symm
        have P : Hid (∀ i, i < j + 1 → GateIn m gs i) := fun i hi => by
          rcases Nat.lt_or_ge i j with h1 | h1
          · exact hpre.out i h1
          · rw [show i = j by omega]; exact hg
        replace C := C.keep hb2
        replace h := h.below hb2
        clear hy HZ hpre C0 C1 C2 hg hb2
        go_wp2_with fail
        exact ⟨⟨j + 1, by omega, by go_num, P, C, h, hb⟩, by simp [intOf]; omega⟩
    · obtain rfl : j = gs.length := by omega
      obtain rfl : z = true := by rw [HZ.out, netV_true]; exact ⟨⟨by omega, by omega, by omega⟩, hpre.out⟩
      clear HZ hpre C h
      go_wp2_with fail
      go_ret
      exact ⟨rfl, hb⟩
end Go.Proofs.Yteeaafdgkepaeaa
