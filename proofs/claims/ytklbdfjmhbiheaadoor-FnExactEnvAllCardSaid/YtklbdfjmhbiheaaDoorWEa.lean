/- The walk of FnExactEnvAll: for all arguments the law returns true and leaves alone what was there. -/
import Derived.Test.YtklbdfjmhbiheaaDoorIg
import Derived.Deep.DeepCutAuto
namespace Go.Proofs.YtklbdfjmhbiheaaDoor
open Go.RowKit

end Go.Proofs.YtklbdfjmhbiheaaDoor
namespace Go
open Go.RowKit
theorem World.ownsRow.below {w w' : World} {base size n : Nat} {e : TypeId} {v : Value} {xs : List Value} (h : w.ownsRow base e size v n xs) (hb : Below w.heap.size w w') : w'.ownsRow base e size v n xs := Go.Proofs.YtklbdfjmhbiheaaDoor.own_keepE h hb
end Go
namespace Go.Proofs.YtklbdfjmhbiheaaDoor
open Go.RowKit
theorem ints_marked {w : World} {base n k : Nat} {e : TypeId} {v : Value} (h : w.ownsRow base e 1 v n ((List.range n).map (intMark k))) : Ints w v ((List.range n).map (fun i => ((k + i : Nat) : Int))) := by
  refine Ints.of_own (base := base) (n := n) (e := e) ?_
  rw [List.map_map]
  exact h

set_option linter.unusedVariables false in
set_option maxRecDepth 100000 in
set_option maxHeartbeats 8000000 in
theorem walk_FnExactEnvAll (v1 : Value) (ds : List Dc) (k : Int) (_ : (Lit.int .i64 k).wf = true) {w : World} (h1 : Decls w v1 ds) :
    Calls Tryd.prog 8 #[v1, .int .i64 k] w fun e w' => e = .returned (.bool true) ∧ Below w.heap.size w w' := by
  have h10 := Lib.hid h1
  obtain ⟨a1, c1, z1, _⟩ := h1.form
  subst z1
  obtain ⟨r, hr⟩ : ∃ r, r = envL ds k := ⟨_, rfl⟩
  obtain ⟨z, hz⟩ : ∃ z, z = envB ds k := ⟨_, rfl⟩
  have hrl : r.length ≤ 4 := by rw [hr]; exact envL_len ds k
  have Fs : Hid (∀ w' s, Decls w' s ds → Calls Tryd.prog 23 #[s, .int .i64 k] w' fun e w2 => ∃ v, e = .returned (.tuple #[v, .bool z]) ∧ w2.ownsRow w'.heap.size 3 1 v r.length (r.map (.int .i64)) ∧ Below w'.heap.size w' w2) := fun w' s h => by rw [hr, hz]; exact envAll_spec s ds k w' h
  have Fi : Hid (∀ w' s, Decls w' s ds → Calls Tryd.prog 22 #[s, .int .i64 k] w' fun e w2 => ∃ v, e = .returned (.tuple #[v, .bool z]) ∧ w2.ownsRow w'.heap.size 3 1 v r.length (r.map (.int .i64)) ∧ Below w'.heap.size w' w2) := fun w' s h => by rw [hr, hz]; exact envAll_impl s ds k w' h
  have EQ : Hid (∀ w' x y, Ints w' x r → Ints w' y r → Calls Tryd.prog 19 #[x, y] w' fun e w2 => e = .returned (.bool true) ∧ Below w'.heap.size w' w2) := fun w' x y h h' => (eqIntS_any x y r r w' h h').mono (by rintro e w2 ⟨rfl, n, rfl⟩; exact ⟨by simp, below_drewN (Below.refl _ _) n⟩)
  clear hr hz
  have K := Below.refl w.heap.size w
  go_enter Tryd.func8, Tryd.ntmps8
  go_wp2_with fail
  refine (szDeclS_any _ ds 1048576 _ h1 (by omega) (by omega)).mono ?_; rintro e w1 ⟨r1, rfl, r10, r11, hs1, hb⟩
  replace h1 := h1.below hb
  replace K := below_two K hb
  clear hb
  have HS1 := Lib.hid hs1
  clear hs1
  by_cases hr1 : r1 < 0
  · go_wp2_with fail
    go_ret
    exact ⟨rfl, K⟩
  have hn := HS1.out (by omega)
  clear HS1
  go_wp2_with fail
  refine (toDeclS_any _ ds _ h1 hn).mono ?_; rintro e w2 ⟨v3, rfl, o3, q3, hb⟩
  obtain ⟨p3, e3, z3, _⟩ := q3.form
  subst z3
  replace h1 := h1.below hb
  replace K := below_two K hb
  clear hb
  clear o3
  go_wp2_with fail
  refine (Fs.out _ _ q3).mono ?_; rintro e w3 ⟨y4, rfl, u4, hb⟩
  obtain ⟨p4, e4, rfl, _⟩ := Row.of_own u4
  replace h1 := h1.below hb
  replace q3 := q3.below hb
  replace K := below_two K hb
  clear hb
  clear q3
  go_wp2_with fail
  refine (toDeclS_any _ ds _ h1 hn).mono ?_; rintro e w4 ⟨v5, rfl, o5, q5, hb⟩
  obtain ⟨p5, e5, z5, _⟩ := q5.form
  subst z5
  have nd45 : Hid (∀ k, Value.ownBlock (.slice p4 r.length e4) = some k → Value.ownBlock (.slice p5 ds.length e5) ≠ some k) := fun k hk e => by have h1 := (u4.lt k hk).2; have h2 := (o5.lt k e).1; omega
  have ndK5 : Hid (∀ k, Value.ownBlock (.slice p5 ds.length e5) = some k → w.heap.size ≤ k) := fun k e => by have h1 := (o5.lt _ e).1; have h2 := K.size; omega
  replace h1 := h1.below hb
  replace u4 := u4.below hb
  replace K := below_two K hb
  clear hb
  go_wp2_with fail
  refine (Fi.out _ _ q5).mono ?_; rintro e w5 ⟨y6, rfl, u6, hb⟩
  obtain ⟨p6, e6, rfl, _⟩ := Row.of_own u6
  have nd65 : Hid (∀ k, Value.ownBlock (.slice p6 r.length e6) = some k → Value.ownBlock (.slice p5 ds.length e5) ≠ some k) := fun k hk e => by have h1 := (u6.lt k hk).1; have h2 := (o5.lt k e).2; omega
  have nd46 : Hid (∀ k, Value.ownBlock (.slice p4 r.length e4) = some k → Value.ownBlock (.slice p6 r.length e6) ≠ some k) := fun k hk e => by have h1 := (u4.lt k hk).2; have h2 := (u6.lt k e).1; omega
  have ndK6 : Hid (∀ k, Value.ownBlock (.slice p6 r.length e6) = some k → w.heap.size ≤ k) := fun k e => by have h1 := (u6.lt _ e).1; have h2 := K.size; omega
  replace h1 := h1.below hb
  replace u4 := u4.below hb
  replace q5 := q5.below hb
  replace o5 := o5.below hb
  replace K := below_two K hb
  clear hb
  go_wp2_with fail
  refine (EQ.out _ _ _ (Ints.of_own u6) (Ints.of_own u4)).mono ?_; rintro e w6 ⟨rfl, hb⟩
  replace h1 := h1.below hb
  replace u4 := u4.below hb
  replace q5 := q5.below hb
  replace o5 := o5.below hb
  replace u6 := u6.below hb
  replace K := below_two K hb
  clear hb
  go_wp2_with fail
  refine (toDeclS_any _ ds _ h1 hn).mono ?_; rintro e w7 ⟨v7, rfl, o7, q7, hb⟩
  obtain ⟨p7, e7, z7, _⟩ := q7.form
  subst z7
  replace h1 := h1.below hb
  replace u4 := u4.below hb
  replace q5 := q5.below hb
  replace o5 := o5.below hb
  replace u6 := u6.below hb
  replace K := below_two K hb
  clear hb
  clear o7
  go_wp2_with fail
  refine (eqDeclS_same _ _ ds _ q5 q7).mono ?_; rintro e w8 ⟨rfl, hb⟩
  replace h1 := h1.below hb
  replace u4 := u4.below hb
  replace q5 := q5.below hb
  replace o5 := o5.below hb
  replace u6 := u6.below hb
  replace q7 := q7.below hb
  replace K := below_two K hb
  clear hb
  clear q7
  go_wp2_with fail
  have MD := markDeclS_any _ _ ds.length 1 _ _ o5 (by omega)
  unfold MarkedD at MD
  obtain ⟨qd, hqd⟩ : ∃ q : Nat, q = 1 + 2 * ds.length := ⟨_, rfl⟩
  rw [← hqd] at MD
  have hqd0 : ¬ (qd : Int) < 0 := by omega
  clear hqd
  refine MD.mono ?_; rintro e w9 ⟨rfl, hg⟩
  clear MD q5
  replace u4 := own_otherE u4 hg nd45.out
  replace u6 := own_otherE u6 hg nd65.out
  have K' := below_grows K hg ndK5.out
  clear K
  have K := K'
  clear K'
  replace h1 := h10.out.below K
  clear hg o5 nd45 nd65 ndK5
  go_wp2_with fail
  refine (EQ.out _ _ _ (Ints.of_own u6) (Ints.of_own u4)).mono ?_; rintro e w10 ⟨rfl, hb⟩
  replace h1 := h1.below hb
  replace u4 := u4.below hb
  replace u6 := u6.below hb
  replace K := below_two K hb
  clear hb
  go_wp2_with fail
  have T6 := markIntS_any _ _ r.length 1 _ _ u6 (by omega)
  unfold Marked at T6
  obtain ⟨q6, hq6⟩ : ∃ q : Nat, q = 1 + r.length := ⟨_, rfl⟩
  rw [← hq6] at T6
  refine T6.mono ?_; rintro e w11 ⟨rfl, u6', hg⟩
  clear T6 u6
  replace u4 := own_otherE u4 hg nd46.out
  have K' := below_grows K hg ndK6.out
  clear K
  have K := K'
  clear K'
  replace h1 := h10.out.below K
  clear hg nd46 ndK6
  have hq60 : ¬ (q6 : Int) < 0 := by omega
  have u6 := u6'
  clear u6'
  have HE : Hid (∀ w' x, Ints w' x ((List.range r.length).map (fun i => ((1 + i : Nat) : Int))) → Calls Tryd.prog 27 #[x, .int .i64 1] w' fun e w2 => e = .returned (.int .i64 (q6 : Int)) ∧ w' = w2) := fun w' x h => by rw [hq6]; exact heldIntS_any x r.length 1 w' h (by omega)
  clear hq6
  have hne6 : ((q6 : Int) != (q6 : Int)) = false := by simp
  go_wp2_with fail
  refine (HE.out _ _ (ints_marked u6)).mono ?_; rintro e _ ⟨rfl, rfl⟩
  go_wp2_with fail
  refine (toDeclS_any _ ds _ h1 hn).mono ?_; rintro e w12 ⟨v8, rfl, o8, q8, hb⟩
  obtain ⟨p8, e8, z8, _⟩ := q8.form
  subst z8
  replace h1 := h1.below hb
  replace u4 := u4.below hb
  replace u6 := u6.below hb
  replace K := below_two K hb
  clear hb
  clear o8
  go_wp2_with fail
  refine (Fi.out _ _ q8).mono ?_; rintro e w13 ⟨y9, rfl, u9, hb⟩
  obtain ⟨p9, e9, rfl, _⟩ := Row.of_own u9
  replace h1 := h1.below hb
  replace u4 := u4.below hb
  replace u6 := u6.below hb
  replace q8 := q8.below hb
  replace K := below_two K hb
  clear hb
  clear q8
  go_wp2_with fail
  refine (EQ.out _ _ _ (Ints.of_own u9) (Ints.of_own u4)).mono ?_; rintro e w14 ⟨rfl, hb⟩
  replace h1 := h1.below hb
  replace u4 := u4.below hb
  replace u6 := u6.below hb
  replace u9 := u9.below hb
  replace K := below_two K hb
  clear hb
  go_wp2_with fail
  refine (HE.out _ _ (ints_marked u6)).mono ?_; rintro e _ ⟨rfl, rfl⟩
  go_wp2_with fail
  go_ret
  exact ⟨rfl, K⟩
end Go.Proofs.YtklbdfjmhbiheaaDoor
