/- The sort of a term, plainly: its bounds, its shape at each kind. The conditions stand in each statement. -/
import Derived.Test.YtfkanemjedndgaaGreatDoorKs
import Derived.Test.YtfkanemjedndgaaGreatDoorTh
namespace Go.Proofs.YtfkanemjedndgaaGreatDoor
open Go.RowKit

theorem cell_new1 (w : World) (x : Value) (t : TypeId) : ∀ (j : Nat) (u : Value), [x][j]? = some u → (w.alloc (.cells #[x] t)).cell? ((⟨w.heap.size, 0, none⟩ : Addr).add j) = some u := by
  intro j u hj
  match j, hj with
  | 0, hj => simp at hj; subst hj; simp [Addr.add]
theorem one_new1 (x : Int) : ∀ u ∈ [Value.int .i64 x], u.oneCell' = true := by
  intro u hu; simp at hu; subst hu; rfl
theorem infoInt : (Tryz.prog.info? 3).map (fun i => (i.zero, i.size, i.bytes)) = some (some (.int .i64 0), 1, 8) := by kernel_rfl
theorem named_two (h : 67 < Tryz.prog.types.size) (x y : Value) : List.take (Tryz.prog.types[67]'h).size [x, y] = [x, y] := by
  have e : (Tryz.prog.types[67]'h).size = 2 := by kernel_rfl
  rw [e]; rfl
theorem named_three (h : 67 < Tryz.prog.types.size) (x y z : Value) : List.take (Tryz.prog.types[67]'h).size [x, y, z] = [x, y] := by
  have e : (Tryz.prog.types[67]'h).size = 2 := by kernel_rfl
  rw [e]; rfl
/-- the widths of declarations that are right -/
def DW (ds : List Dc) : Prop := ∀ i, i < ds.length → 1 ≤ (ds.getD i dz).2 ∧ (ds.getD i dz).2 ≤ 4
def SB (ss : List Int) : Prop := ∀ i, -1 ≤ ss.getD i 0 ∧ ss.getD i 0 ≤ 4
theorem orNo_bd {c : Prop} [Decidable c] {x : Int} (h : c → -1 ≤ x ∧ x ≤ 4) : -1 ≤ orNo c x ∧ orNo c x ≤ 4 := by
  unfold orNo; split
  · exact h (by assumption)
  · omega
theorem SVb_bd {ds : List Dc} (hd : DW ds) {op a b : Int} {nm : ByteArray} {ss : List Int} (hs : SB ss) : -1 ≤ SVb ds op a b nm ss ∧ SVb ds op a b nm ss ≤ 4 := by
  have h0 := hs 0
  have h1 := hs 1
  unfold SVb
  split
  · exact orNo_bd fun _ => by omega
  split
  · exact orNo_bd fun _ => by omega
  split
  · exact orNo_bd fun _ => by omega
  split
  · exact orNo_bd fun _ => by omega
  split
  · exact orNo_bd fun h => by have := vokB_elim h; omega
  split
  · exact orNo_bd fun h => by
      have := findV_bd ds nm ds.length
      have := hd (findV ds nm ds.length).toNat (by omega)
      omega
  split
  · exact orNo_bd fun _ => by omega
  split
  · exact orNo_bd fun _ => by omega
  · exact orNo_bd fun _ => by omega
theorem SV1_bd {ds : List Dc} (hd : DW ds) {op a b : Int} {nm : ByteArray} {ss : List Int} (hs : SB ss) : -1 ≤ SV1 ds op a b nm ss ∧ SV1 ds op a b nm ss ≤ 4 := by
  unfold SV1; split
  · exact SVb_bd hd hs
  · omega
theorem kS_bd {ds : List Dc} (hd : DW ds) : ∀ (d : Nat) (ks : List Tm), SB (kS ds d ks)
  | 0, _ => fun i => by simp [kS]
  | d + 1, ks => fun i => by
    rcases Nat.lt_or_ge i ks.length with h | h
    · rw [kS_at h]; exact SV1_bd hd (kS_bd hd d _)
    · rw [List.getD_eq_getElem?_getD, List.getElem?_eq_none (by simp [kS]; omega)]; simp
theorem SV1_no {ds : List Dc} {op a b : Int} {nm : ByteArray} {ss : List Int} (h : ¬ (known op = true ∧ (ss.length : Int) = arity op ∧ plainB op a b nm = true ∧ ∀ s ∈ ss, s ≠ -1)) : SV1 ds op a b nm ss = -1 := by unfold SV1; rw [if_neg h]
theorem SV1_yes {ds : List Dc} {op a b : Int} {nm : ByteArray} {ss : List Int} (h : known op = true ∧ (ss.length : Int) = arity op ∧ plainB op a b nm = true ∧ ∀ s ∈ ss, s ≠ -1) : SV1 ds op a b nm ss = SVb ds op a b nm ss := by unfold SV1; rw [if_pos h]
theorem not_all {ss : List Int} {k : Nat} (hk : k < ss.length) (h : ss.getD k 0 = -1) : ¬ ∀ s ∈ ss, s ≠ -1 := fun e => e (ss.getD k 0) (by rw [List.getD_eq_getElem?_getD, List.getElem?_eq_getElem hk]; exact List.getElem_mem _) h
theorem all_of {ss : List Int} (h : ∀ k, k < ss.length → ss.getD k 0 ≠ -1) : ∀ s ∈ ss, s ≠ -1 := fun s hs => by
  obtain ⟨i, hi, rfl⟩ := List.getElem_of_mem hs
  have := h i hi
  rwa [List.getD_eq_getElem?_getD, List.getElem?_eq_getElem hi] at this
theorem SVb_un {ds : List Dc} {op a b : Int} {nm : ByteArray} {ss : List Int} (hc : op = 1 ∨ op = 2) : SVb ds op a b nm ss = orNo (0 < ss.getD 0 0) (ss.getD 0 0) := by
  unfold SVb; rw [if_pos (by omega)]
theorem arity_un {op : Int} (hc : op = 1 ∨ op = 2) : arity op = 1 := by
  unfold arity; repeat' split
  all_goals omega
theorem SVb_bin {ds : List Dc} {op a b : Int} {nm : ByteArray} {ss : List Int} (hc : 3 ≤ op ∧ op ≤ 13) : SVb ds op a b nm ss = orNo (0 < ss.getD 0 0 ∧ ss.getD 0 0 = ss.getD 1 0) (ss.getD 0 0) := by
  unfold SVb; rw [if_neg (by omega), if_pos (by omega)]
theorem arity_bin {op : Int} (hc : 3 ≤ op ∧ op ≤ 13) : arity op = 2 := by
  unfold arity; repeat' split
  all_goals omega
theorem SVb_cat {ds : List Dc} {op a b : Int} {nm : ByteArray} {ss : List Int} (hc : op = 14) : SVb ds op a b nm ss = orNo (0 < ss.getD 0 0 ∧ 0 < ss.getD 1 0 ∧ ss.getD 0 0 + ss.getD 1 0 ≤ 4) (ss.getD 0 0 + ss.getD 1 0) := by
  unfold SVb; rw [if_neg (by omega), if_neg (by omega), if_pos (by omega)]
theorem arity_cat {op : Int} (hc : op = 14) : arity op = 2 := by
  unfold arity; repeat' split
  all_goals omega
theorem SVb_cmp {ds : List Dc} {op a b : Int} {nm : ByteArray} {ss : List Int} (hc : 15 ≤ op ∧ op ≤ 17) : SVb ds op a b nm ss = orNo (0 < ss.getD 0 0 ∧ ss.getD 0 0 = ss.getD 1 0) 0 := by
  unfold SVb; rw [if_neg (by omega), if_neg (by omega), if_neg (by omega), if_pos (by omega)]
theorem arity_cmp {op : Int} (hc : 15 ≤ op ∧ op ≤ 17) : arity op = 2 := by
  unfold arity; repeat' split
  all_goals omega
theorem SVb_vec {ds : List Dc} {op a b : Int} {nm : ByteArray} {ss : List Int} (hc : op = 20) : SVb ds op a b nm ss = orNo (vokB a b = true) a := by
  unfold SVb; rw [if_neg (by omega), if_neg (by omega), if_neg (by omega), if_neg (by omega), if_pos (by omega)]
theorem arity_vec {op : Int} (hc : op = 20) : arity op = 0 := by
  unfold arity; repeat' split
  all_goals omega
theorem SVb_name {ds : List Dc} {op a b : Int} {nm : ByteArray} {ss : List Int} (hc : op = 21) : SVb ds op a b nm ss = orNo (0 ≤ findV ds nm ds.length) (ds.getD (findV ds nm ds.length).toNat dz).2 := by
  unfold SVb; rw [if_neg (by omega), if_neg (by omega), if_neg (by omega), if_neg (by omega), if_neg (by omega), if_pos (by omega)]
theorem arity_name {op : Int} (hc : op = 21) : arity op = 0 := by
  unfold arity; repeat' split
  all_goals omega
theorem SVb_cut {ds : List Dc} {op a b : Int} {nm : ByteArray} {ss : List Int} (hc : op = 22) : SVb ds op a b nm ss = orNo (0 ≤ b ∧ b ≤ a ∧ a < ss.getD 0 0) (a - b + 1) := by
  unfold SVb; rw [if_neg (by omega), if_neg (by omega), if_neg (by omega), if_neg (by omega), if_neg (by omega), if_neg (by omega), if_pos (by omega)]
theorem arity_cut {op : Int} (hc : op = 22) : arity op = 1 := by
  unfold arity; repeat' split
  all_goals omega
theorem SVb_if {ds : List Dc} {op a b : Int} {nm : ByteArray} {ss : List Int} (hc : op = 23) : SVb ds op a b nm ss = orNo (ss.getD 0 0 = 0 ∧ ss.getD 1 0 = ss.getD 2 0) (ss.getD 1 0) := by
  unfold SVb; rw [if_neg (by omega), if_neg (by omega), if_neg (by omega), if_neg (by omega), if_neg (by omega), if_neg (by omega), if_neg (by omega), if_pos (by omega)]
theorem arity_if {op : Int} (hc : op = 23) : arity op = 3 := by
  unfold arity; repeat' split
  all_goals omega
theorem SVb_bool {ds : List Dc} {op a b : Int} {nm : ByteArray} {ss : List Int} {n : Int} (hc : (op = 24 ∧ n = 0) ∨ (op = 25 ∧ n = 1) ∨ ((op = 26 ∨ op = 27) ∧ n = 2)) : SVb ds op a b nm ss = orNo (∀ s ∈ ss, s = 0) 0 := by
  unfold SVb; rw [if_neg (by omega), if_neg (by omega), if_neg (by omega), if_neg (by omega), if_neg (by omega), if_neg (by omega), if_neg (by omega), if_neg (by omega)]
theorem arity_bool {op : Int} {n : Int} (hc : (op = 24 ∧ n = 0) ∨ (op = 25 ∧ n = 1) ∨ ((op = 26 ∨ op = 27) ∧ n = 2)) : arity op = n := by
  unfold arity; repeat' split
  all_goals omega
def SortC (ds : List Dc) (d : Nat) : Prop := ∀ (b : Nat) (v : Value) (op p q : Int) (nm : ByteArray) (s : Value) (ks : List Tm) (w : World), KMap w b → Decls w v ds → SIn d w s ks → TW d ks → (Lit.int .i64 op).wf = true →
  Calls Tryz.prog 31 #[.map (some b), v, .agg #[.int .i64 op, .int .i64 p, .int .i64 q, .string nm, s]] w fun e w' => e = .returned (.int .i64 (SV1 ds op p q nm (kS ds d ks))) ∧ Below w.heap.size w w'
end Go.Proofs.YtfkanemjedndgaaGreatDoor
