/- TermText of the program. The conditions stand in each statement. -/
import Derived.Test.YtfkanemjedndgaaGreatDoorXb
namespace Go.Proofs.YtfkanemjedndgaaGreatDoor
open Go.RowKit

set_option linter.unusedVariables false in
set_option maxRecDepth 100000 in
set_option maxHeartbeats 8000000 in
theorem termText_impl (v : Value) (ds : List Dc) (d : Nat) (op p q : Int) (nm : ByteArray) (s : Value) (ks : List Tm) (w : World) (hD : Decls w v ds) (h : SIn d w s ks) (hW : TW d ks) (hop : (Lit.int .i64 op).wf = true) :
    Calls Tryz.prog 9 #[v, .agg #[.int .i64 op, .int .i64 p, .int .i64 q, .string nm, s]] w fun e w' => e = .returned (.string (TXV ds d op p q nm ks)) ∧ Below w.heap.size w w' := by
  obtain ⟨sa, sc, es, _⟩ := h.form
  subst es
  obtain ⟨va, vc, ev, _⟩ := hD.form
  subst ev
  have K := below_self_alloc w (.cells #[.int .i64 op, .int .i64 p, .int .i64 q, .string nm, .slice sa ks.length sc] 33)
  have A := blk5_new w (.int .i64 op) (.int .i64 p) (.int .i64 q) (.string nm) (.slice sa ks.length sc) 33
  replace h := h.below K
  replace hD := hD.below K
  have M := Lib.hid (fun w' hD' h' => termSort_impl (.slice va ds.length vc) ds d op p q nm (.slice sa ks.length sc) ks w' hD' h' hW hop)
  obtain ⟨z, hz⟩ : ∃ z, z = TSV ds d op p q nm ks := ⟨_, rfl⟩
  rw [← hz] at M
  obtain ⟨r, hr⟩ : ∃ r, r = TXV ds d op p q nm ks := ⟨_, rfl⟩
  rw [← hr]
  have HZ := Lib.hid hz
  have HR := Lib.hid hr
  clear hz hr
  obtain ⟨A0, A1, A2, A3, A4, A5⟩ := A.cells
  by_cases hc : z = -1
  · have hr1 : r = ⟨#[]⟩ := by rw [HR.out]; unfold TXV; rw [if_pos (by rw [← HZ.out]; exact hc)]
    subst hr1 hc
    clear HZ HR
    go_enter Tryz.func9, Tryz.ntmps9
    go_wp2_with fail
    refine (M.out _ hD h).mono ?_; rintro e w1 ⟨rfl, hb⟩
    replace K := below_two K hb
    go_wp2_with fail
    go_ret
    exact ⟨rfl, K⟩
  · obtain ⟨p1, p2, p3, p4⟩ := TSV_parts (show TSV ds d op p q nm ks ≠ -1 from by rw [← HZ.out]; exact hc)
    have hneg : (z == -1) = false := beq_false_of_ne hc
    have hr1 : r = ⟨(tx1 op p q nm (kT d ks)).toArray⟩ := by rw [HR.out]; unfold TXV; rw [if_neg (by rw [← HZ.out]; exact hc)]
    have C : Hid (∀ w' b, KMap w' b → SIn d w' (.slice sa ks.length sc) ks → Calls Tryz.prog 19 #[.map (some b), .agg #[.int .i64 op, .int .i64 p, .int .i64 q, .string nm, .slice sa ks.length sc]] w' fun e w2 => e = .returned (.string r) ∧ Below w'.heap.size w' w2) := fun w' b h0 h' => by
      rw [hr1]; exact textOf_any ds (DW_of p1) (DN_of p1) d b op p q nm _ ks w' h0 h' p3 p2
    clear HZ HR p1 p2 p3 p4 hr1 hc
    go_enter Tryz.func9, Tryz.ntmps9
    go_wp2_with fail
    refine (M.out _ hD h).mono ?_; rintro e w1 ⟨rfl, hb⟩
    clear A0 A1 A2 A3 A4 A5 M
    replace A := A.keep hb
    replace K := below_two K hb
    replace h := h.below hb
    clear hb
    go_wp2_with fail
    replace A := A.drew
    replace K := K.drew
    replace h := h.drew
    have sS := And.intro A.cells.1 (And.intro A.cells.2.1 (And.intro A.cells.2.2.1 (And.intro A.cells.2.2.2.1 A.cells.2.2.2.2.1)))
    go_region_held3 (fun wx : World => wx.cell? ⟨w.heap.size, 0, none⟩ = some (.int .i64 op) ∧ wx.cell? ⟨w.heap.size, 1, none⟩ = some (.int .i64 p) ∧ wx.cell? ⟨w.heap.size, 2, none⟩ = some (.int .i64 q) ∧ wx.cell? ⟨w.heap.size, 3, none⟩ = some (.string nm) ∧ wx.cell? ⟨w.heap.size, 4, none⟩ = some (.slice sa ks.length sc)) (first | (with_reducible assumption)) (first | (go_at_call 20; (with_reducible refine (kinds_any _).mono ?_); rintro e w3 ⟨kb, rfl, hM, hb⟩; replace A := A.keep hb; replace K := below_two K hb; replace h := h.below hb; clear hb; replace sS := And.intro A.cells.1 (And.intro A.cells.2.1 (And.intro A.cells.2.2.1 (And.intro A.cells.2.2.2.1 A.cells.2.2.2.2.1)))) | (go_at_call 19; (with_reducible refine (C.out _ _ hM h).mono ?_); rintro e w4 ⟨rfl, hb⟩; replace A := A.keep hb; replace K := below_two K hb; clear hb; replace sS := And.intro A.cells.1 (And.intro A.cells.2.1 (And.intro A.cells.2.2.1 (And.intro A.cells.2.2.2.1 A.cells.2.2.2.2.1)))))
    go_wp2_with fail
    go_ret
    exact ⟨rfl, K⟩
end Go.Proofs.YtfkanemjedndgaaGreatDoor
