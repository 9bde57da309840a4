/- The walk of FnExactClauseRead: for all arguments the law returns true and leaves alone what was there. -/
import Derived.Test.YtjobbokjebhjgaaDoorYm
import Derived.Deep.DeepCutAuto
namespace Go.Proofs.YtjobbokjebhjgaaDoor
open Go.RowKit

set_option linter.unusedVariables false in
set_option maxRecDepth 20000 in
set_option maxHeartbeats 8000000 in
theorem walk_FnExactClauseRead (s : ByteArray) (_ : s.size ≤ maxLen) {w : World} (hE : Errs w) :
    Calls Tryd.prog 4 #[.string s] w fun e w' => e = .returned (.bool true) ∧ Below w.heap.size w w' := by
  by_cases hm : 1048576 < s.size
  · have hm2 : (1048576 : Int) < (s.size : Int) := by omega
    go_enter Tryd.func4, Tryd.ntmps4
    go_wp2_with fail
    go_ret
    exact ⟨rfl, Below.refl _ _⟩
  have hm2 : ¬ (1048576 : Int) < (s.size : Int) := by omega
  have hl7 := readV_len s.data.toList
  obtain ⟨l, hl⟩ : ∃ l, l = (readV s.data.toList).1 := ⟨_, rfl⟩
  obtain ⟨b, hb⟩ : ∃ b, b = (readV s.data.toList).2 := ⟨_, rfl⟩
  rw [← hl] at hl7
  have CS : Hid (∀ w', Calls Tryd.prog 9 #[.string s] w' (GaveRead l b w')) := fun w' => by rw [hl, hb]; exact clauseRead_spec s w'
  have CI : Hid (∀ w', Errs w' → Calls Tryd.prog 10 #[.string s] w' (GaveRead l b w')) := fun w' h => by rw [hl, hb]; exact clauseRead_impl s w' h
  clear hl hb
  have hE0 := hE
  go_enter Tryd.func4, Tryd.ntmps4
  go_wp2_with fail
  refine (CS.out _).mono ?_; rintro e w1 ⟨y1, rfl, u1, hb⟩
  obtain ⟨p1, c1, rfl, _⟩ := Row.of_own u1
  replace hE := hE.below hb
  have K := hb
  clear hb
  go_wp2_with fail
  refine (CI.out _ hE).mono ?_; rintro e w2 ⟨y2, rfl, u2, hb⟩
  obtain ⟨p2, c2, rfl, _⟩ := Row.of_own u2
  have nd12 : Hid (∀ k, Value.ownBlock (.slice p1 l.length c1) = some k → Value.ownBlock (.slice p2 l.length c2) ≠ some k) := fun k hk e => by have h1 := (u1.lt k hk).2; have h2 := (u2.lt k e).1; omega
  have ndK : Hid (∀ k, Value.ownBlock (.slice p2 l.length c2) = some k → w.heap.size ≤ k) := fun k e => by have h1 := (u2.lt _ e).1; have h2 := K.size; omega
  replace hE := hE.below hb
  replace u1 := u1.below hb
  replace K := below_two K hb
  clear hb
  go_wp2_with fail
  refine (eqIntS_any _ _ l l _ (Ints.of_own u2) (Ints.of_own u1)).mono ?_; rintro e w3 d
  obtain ⟨rfl, hb⟩ := d.below
  rw [decide_eq_true rfl]
  replace hE := hE.below hb
  replace u1 := u1.below hb
  replace u2 := u2.below hb
  replace K := below_two K hb
  clear hb
  go_wp2_with fail
  refine (markIntS_any _ _ l.length 1 _ _ u2 (by omega)).mono ?_; rintro e w4 ⟨rfl, u2', hg⟩
  clear u2
  have u2 := u2'
  clear u2'
  replace u1 := own_other u1 hg nd12.out
  have K' := below_grows K hg ndK.out
  clear K
  have K := K'
  clear K' hg nd12 ndK
  replace hE := hE0.below K
  go_wp2_with fail
  have UB := Ints.of_own (l := (List.range l.length).map (fun i => ((1 + i : Nat) : Int))) (by have e : ((List.range l.length).map (fun i => ((1 + i : Nat) : Int))).map (Value.int .i64) = (List.range l.length).map (intMark 1) := (by rw [List.map_map]; rfl); rw [e]; exact u2)
  have HC := Lib.hid (heldIntS_any _ l.length 1 _ (by simpa using UB) (by omega))
  clear UB
  refine HC.out.mono ?_; rintro e w5 ⟨rfl, rfl⟩
  clear HC
  go_wp2_with fail
  refine (CI.out _ hE).mono ?_; rintro e w6 ⟨y3, rfl, u3, hb⟩
  obtain ⟨p3, c3, rfl, _⟩ := Row.of_own u3
  replace hE := hE.below hb
  replace u1 := u1.below hb
  replace u2 := u2.below hb
  replace K := below_two K hb
  clear hb
  go_wp2_with fail
  refine (eqIntS_any _ _ l l _ (Ints.of_own u3) (Ints.of_own u1)).mono ?_; rintro e w7 d
  obtain ⟨rfl, hb⟩ := d.below
  rw [decide_eq_true rfl]
  replace hE := hE.below hb
  replace u1 := u1.below hb
  replace u2 := u2.below hb
  replace u3 := u3.below hb
  replace K := below_two K hb
  clear hb
  go_wp2_with fail
  have UB := Ints.of_own (l := (List.range l.length).map (fun i => ((1 + i : Nat) : Int))) (by have e : ((List.range l.length).map (fun i => ((1 + i : Nat) : Int))).map (Value.int .i64) = (List.range l.length).map (intMark 1) := (by rw [List.map_map]; rfl); rw [e]; exact u2)
  have HC := Lib.hid (heldIntS_any _ l.length 1 _ (by simpa using UB) (by omega))
  clear UB
  refine HC.out.mono ?_; rintro e w8 ⟨rfl, rfl⟩
  clear HC
  go_wp2_with fail
  go_ret
  exact ⟨rfl, K⟩
end Go.Proofs.YtjobbokjebhjgaaDoor
