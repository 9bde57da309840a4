/- The words of the kinds of terms; TermText of the reference. The conditions stand in each statement. -/
import Derived.Test.YtfkanemjedndgaaGreatDoorTz
namespace Go.Proofs.YtfkanemjedndgaaGreatDoor
open Go.RowKit

def HoldsW (op : Int) (v : Value) : Prop :=
  ((op = 1 ∨ op = 2) ∧ v = kUn (wordB op)) ∨ ((3 ≤ op ∧ op ≤ 13) ∧ v = kBin (wordB op)) ∨ (op = 14 ∧ v = kCat (wordB op)) ∨ ((15 ≤ op ∧ op ≤ 17) ∧ v = kCmp (wordB op)) ∨ (op = 22 ∧ v = kCut (wordB op)) ∨ (op = 23 ∧ v = kIf (wordB op)) ∨ (∃ n f, (25 ≤ op ∧ op ≤ 27) ∧ v = kBool (wordB op) n f)
theorem kind_word (op : Int) (h : known op = true) (h20 : op ≠ 20) (h21 : op ≠ 21) (h24 : op ≠ 24) : ∃ v, (kDat 11).atKey (.int .i64 op) (.held .nilIface) = .held v ∧ HoldsW op v := by
  have : op = 1 ∨ op = 2 ∨ op = 3 ∨ op = 4 ∨ op = 5 ∨ op = 6 ∨ op = 7 ∨ op = 8 ∨ op = 9 ∨ op = 10 ∨ op = 11 ∨ op = 12 ∨ op = 13 ∨ op = 14 ∨ op = 15 ∨ op = 16 ∨ op = 17 ∨ op = 22 ∨ op = 23 ∨ op = 25 ∨ op = 26 ∨ op = 27 := by
    unfold known at h; simp at h; omega
  clear h h20 h21 h24
  rcases this with rfl | rfl | rfl | rfl | rfl | rfl | rfl | rfl | rfl | rfl | rfl | rfl | rfl | rfl | rfl | rfl | rfl | rfl | rfl | rfl | rfl | rfl
  · exact ⟨kUn (wordB 1), by kernel_rfl, .inl ⟨by omega, rfl⟩⟩
  · exact ⟨kUn (wordB 2), by kernel_rfl, .inl ⟨by omega, rfl⟩⟩
  · exact ⟨kBin (wordB 3), by kernel_rfl, .inr (.inl ⟨by omega, rfl⟩)⟩
  · exact ⟨kBin (wordB 4), by kernel_rfl, .inr (.inl ⟨by omega, rfl⟩)⟩
  · exact ⟨kBin (wordB 5), by kernel_rfl, .inr (.inl ⟨by omega, rfl⟩)⟩
  · exact ⟨kBin (wordB 6), by kernel_rfl, .inr (.inl ⟨by omega, rfl⟩)⟩
  · exact ⟨kBin (wordB 7), by kernel_rfl, .inr (.inl ⟨by omega, rfl⟩)⟩
  · exact ⟨kBin (wordB 8), by kernel_rfl, .inr (.inl ⟨by omega, rfl⟩)⟩
  · exact ⟨kBin (wordB 9), by kernel_rfl, .inr (.inl ⟨by omega, rfl⟩)⟩
  · exact ⟨kBin (wordB 10), by kernel_rfl, .inr (.inl ⟨by omega, rfl⟩)⟩
  · exact ⟨kBin (wordB 11), by kernel_rfl, .inr (.inl ⟨by omega, rfl⟩)⟩
  · exact ⟨kBin (wordB 12), by kernel_rfl, .inr (.inl ⟨by omega, rfl⟩)⟩
  · exact ⟨kBin (wordB 13), by kernel_rfl, .inr (.inl ⟨by omega, rfl⟩)⟩
  · exact ⟨kCat (wordB 14), by kernel_rfl, .inr (.inr (.inl ⟨by omega, rfl⟩))⟩
  · exact ⟨kCmp (wordB 15), by kernel_rfl, .inr (.inr (.inr (.inl ⟨by omega, rfl⟩)))⟩
  · exact ⟨kCmp (wordB 16), by kernel_rfl, .inr (.inr (.inr (.inl ⟨by omega, rfl⟩)))⟩
  · exact ⟨kCmp (wordB 17), by kernel_rfl, .inr (.inr (.inr (.inl ⟨by omega, rfl⟩)))⟩
  · exact ⟨kCut (wordB 22), by kernel_rfl, .inr (.inr (.inr (.inr (.inl ⟨by omega, rfl⟩))))⟩
  · exact ⟨kIf (wordB 23), by kernel_rfl, .inr (.inr (.inr (.inr (.inr (.inl ⟨by omega, rfl⟩)))))⟩
  · exact ⟨kBool (wordB 25) 1 (.func (.func 36) #[] #[]), by kernel_rfl, .inr (.inr (.inr (.inr (.inr (.inr (⟨_, _, by omega, rfl⟩))))))⟩
  · exact ⟨kBool (wordB 26) 2 (.func (.func 37) #[] #[]), by kernel_rfl, .inr (.inr (.inr (.inr (.inr (.inr (⟨_, _, by omega, rfl⟩))))))⟩
  · exact ⟨kBool (wordB 27) 2 (.func (.func 38) #[] #[]), by kernel_rfl, .inr (.inr (.inr (.inr (.inr (.inr (⟨_, _, by omega, rfl⟩))))))⟩
/-- the look-up of a kind without ok -/
theorem look_word {w : World} {b : Nat} (h : KMap w b) (op : Int) (hop : (Lit.int .i64 op).wf = true) (hk : known op = true) (h20 : op ≠ 20) (h21 : op ≠ 21) (h24 : op ≠ 24) :
    ∃ v, (Instr.lookup 48 (.map (some b)) (.int .i64 op) false).run Tryz.prog w = .ok v w ∧ HoldsW op v := by
  obtain ⟨v, ps, hrun, hv⟩ := World.ownsMap.lookup h keyed Tryz.underlying48 (z := .nilIface) (zd := .held .nilIface) (zp := []) (Tryz.zeroValue63 w) rfl (keyI op hop)
  obtain ⟨u, h2, h3⟩ := kind_word op hk h20 h21 h24
  rw [h2] at hv
  have : v = u := by
    simp only [heldR, Option.some.injEq, Prod.mk.injEq, DataW.held.injEq] at hv
    exact hv.1
  subst this
  exact ⟨v, hrun, h3⟩
theorem word_any (s : ByteArray) (n : Int) (w : World) : Calls Tryz.prog 115 #[.agg #[.string s, .int .i64 n]] w fun e w' => e = .returned (.string s) ∧ Below w.heap.size w w' := by
  have hb := below_self_alloc w (.cells #[.string s, .int .i64 n] 67)
  go_enter Tryz.func115, Tryz.ntmps115
  go_wp2
  go_ret
  exact ⟨rfl, hb⟩
theorem l2Text_any (ds : List Dc) (hdw : DW ds) (hdn : ∀ i, i < ds.length → (ds.getD i dz).1.size ≤ 4) : ∀ d, TextS ds d
  | 0 => l2Text_step ds hdw hdn 0 (fun _ e => by cases e)
  | d + 1 => l2Text_step ds hdw hdn (d + 1) (fun d' e => by cases e; exact l2Text_any ds hdw hdn d)
theorem DN_of {ds : List Dc} (h : DeclsOk ds) : ∀ i, i < ds.length → (ds.getD i dz).1.size ≤ 4 := fun i hi => (h.2.1 i hi).1.2.2.1
theorem TSV_parts {ds : List Dc} {d : Nat} {op a b : Int} {nm : ByteArray} {ks : List Tm} (h : TSV ds d op a b nm ks ≠ -1) : DeclsOk ds ∧ NN d ks ≤ 20 ∧ SV1 ds op a b nm (kS ds d ks) ≠ -1 ∧ TSV ds d op a b nm ks = SV1 ds op a b nm (kS ds d ks) := by
  by_cases hc : declV ds = true ∧ NN d ks ≤ 20 ∧ DD d ks ≤ 7
  · have e : TSV ds d op a b nm ks = SV1 ds op a b nm (kS ds d ks) := by unfold TSV; rw [if_pos hc]
    rw [e] at h
    exact ⟨declV_true.1 hc.1, hc.2.1, h, e⟩
  · exact absurd (by unfold TSV; rw [if_neg hc]) h
/-- what TermText answers -/
noncomputable def TXV (ds : List Dc) (d : Nat) (op a b : Int) (nm : ByteArray) (ks : List Tm) : ByteArray := if TSV ds d op a b nm ks = -1 then ⟨#[]⟩ else ⟨(tx1 op a b nm (kT d ks)).toArray⟩
theorem SV1_neg {ds : List Dc} (hd : DW ds) {op a b : Int} {nm : ByteArray} {ss : List Int} (hs : SB ss) (h : SV1 ds op a b nm ss ≠ -1) : ¬ SV1 ds op a b nm ss < 0 := by
  have h1 := (SV1_bd (op := op) (a := a) (b := b) (nm := nm) hd hs).1
  omega
set_option linter.unusedVariables false in
set_option maxRecDepth 100000 in
set_option maxHeartbeats 8000000 in
theorem termText_spec (v : Value) (ds : List Dc) (d : Nat) (op p q : Int) (nm : ByteArray) (s : Value) (ks : List Tm) (w : World) (hD : Decls w v ds) (h : SIn d w s ks) :
    Calls Tryz.prog 6 #[v, .agg #[.int .i64 op, .int .i64 p, .int .i64 q, .string nm, s]] w fun e w' => e = .returned (.string (TXV ds d op p q nm ks)) ∧ Below w.heap.size w w' := by
  obtain ⟨sa, sc, es, _⟩ := h.form
  subst es
  obtain ⟨va, vc, ev, _⟩ := hD.form
  subst ev
  have K := below_self_alloc w (.cells #[.int .i64 op, .int .i64 p, .int .i64 q, .string nm, .slice sa ks.length sc] 33)
  have A := blk5_new w (.int .i64 op) (.int .i64 p) (.int .i64 q) (.string nm) (.slice sa ks.length sc) 33
  replace h := h.below K
  replace hD := hD.below K
  have M := Lib.hid (fun w' hD' h' => termSort_spec (.slice va ds.length vc) ds d op p q nm (.slice sa ks.length sc) ks w' hD' h')
  obtain ⟨z, hz⟩ : ∃ z, z = TSV ds d op p q nm ks := ⟨_, rfl⟩
  rw [← hz] at M
  obtain ⟨r, hr⟩ : ∃ r, r = TXV ds d op p q nm ks := ⟨_, rfl⟩
  rw [← hr]
  have HZ := Lib.hid hz
  have HR := Lib.hid hr
  clear hz hr
  obtain ⟨A0, A1, A2, A3, A4, A5⟩ := A.cells
  by_cases hc : z = -1
  · have hr1 : r = ⟨#[]⟩ := by rw [HR.out]; unfold TXV; rw [if_pos (by rw [← HZ.out]; exact hc)]
    subst hr1 hc
    clear HZ HR
    go_enter Tryz.func6, Tryz.ntmps6
    go_wp2_with fail
    refine (M.out _ hD h).mono ?_; rintro e w1 ⟨rfl, hb⟩
    replace K := below_two K hb
    go_wp2_with fail
    go_ret
    exact ⟨rfl, K⟩
  · have hp := TSV_parts (show TSV ds d op p q nm ks ≠ -1 from by rw [← HZ.out]; exact hc)
    obtain ⟨p1, p2, p3, p4⟩ := hp
    have hneg : ¬ z < 0 := by rw [HZ.out, p4]; exact SV1_neg (DW_of p1) (kS_bd (DW_of p1) d ks) p3
    have hr1 : r = ⟨(tx1 op p q nm (kT d ks)).toArray⟩ := by rw [HR.out]; unfold TXV; rw [if_neg (by rw [← HZ.out]; exact hc)]
    have C : Hid (∀ w', SIn d w' (.slice sa ks.length sc) ks → Calls Tryz.prog 15 #[.agg #[.int .i64 op, .int .i64 p, .int .i64 q, .string nm, .slice sa ks.length sc]] w' fun e w2 => e = .returned (.string r) ∧ Below w'.heap.size w' w2) := fun w' h' => by
      rw [hr1]; exact l2Text_any ds (DW_of p1) (DN_of p1) d op p q nm _ ks w' h' p3 p2
    clear HZ HR p1 p2 p3 p4 hr1 hc
    go_enter Tryz.func6, Tryz.ntmps6
    go_wp2_with fail
    refine (M.out _ hD h).mono ?_; rintro e w1 ⟨rfl, hb⟩
    clear A0 A1 A2 A3 A4 A5 M
    replace A := A.keep hb
    replace K := below_two K hb
    replace h := h.below hb
    clear hb
    obtain ⟨A0, A1, A2, A3, A4, A5⟩ := A.cells
    go_wp2_with fail
    refine (C.out _ h).mono ?_; rintro e w3 ⟨rfl, hb⟩
    replace K := below_two K hb
    go_wp2_with fail
    go_ret
    exact ⟨rfl, K⟩
end Go.Proofs.YtfkanemjedndgaaGreatDoor
