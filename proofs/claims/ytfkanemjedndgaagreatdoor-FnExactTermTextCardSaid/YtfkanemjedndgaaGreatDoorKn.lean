/- TermSort of the program and of the reference. The conditions stand in each statement. -/
import Derived.Test.YtfkanemjedndgaaGreatDoorKm
import Derived.Test.YtfkanemjedndgaaGreatDoorKx
namespace Go.Proofs.YtfkanemjedndgaaGreatDoor
open Go.RowKit

theorem DW_of {ds : List Dc} (h : DeclsOk ds) : DW ds := fun i hi => by
  have := h.2.1 i hi
  unfold OkAt at this
  omega
/-- what TermSort answers -/
noncomputable def TSV (ds : List Dc) (d : Nat) (op a b : Int) (nm : ByteArray) (ks : List Tm) : Int :=
  if declV ds = true ∧ NN d ks ≤ 20 ∧ DD d ks ≤ 7 then SV1 ds op a b nm (kS ds d ks) else -1

set_option linter.unusedVariables false in
set_option maxRecDepth 100000 in
set_option maxHeartbeats 8000000 in
theorem termSort_spec (v : Value) (ds : List Dc) (d : Nat) (op p q : Int) (nm : ByteArray) (s : Value) (ks : List Tm) (w : World) (hD : Decls w v ds) (h : SIn d w s ks) :
    Calls Tryz.prog 14 #[v, .agg #[.int .i64 op, .int .i64 p, .int .i64 q, .string nm, s]] w fun e w' => e = .returned (.int .i64 (TSV ds d op p q nm ks)) ∧ Below w.heap.size w w' := by
  obtain ⟨sa, sc, es, _⟩ := h.form
  subst es
  obtain ⟨va, vc, ev, _⟩ := hD.form
  subst ev
  have K := below_self_alloc w (.cells #[.int .i64 op, .int .i64 p, .int .i64 q, .string nm, .slice sa ks.length sc] 33)
  have A := blk5_new w (.int .i64 op) (.int .i64 p) (.int .i64 q) (.string nm) (.slice sa ks.length sc) 33
  replace h := h.below K
  replace hD := hD.below K
  have M := Lib.hid (fun w' h' => termMany_spec d op p q nm (.slice sa ks.length sc) ks w' h')
  have O := Lib.hid (fun w' h' => declOk_spec (.slice va ds.length vc) ds w' h')
  obtain ⟨z, hz⟩ : ∃ z, z = TSV ds d op p q nm ks := ⟨_, rfl⟩
  rw [← hz]
  have HZ := Lib.hid hz
  clear hz
  obtain ⟨A0, A1, A2, A3, A4, A5⟩ := A.cells
  go_enter Tryz.func14, Tryz.ntmps14
  go_wp2_with fail
  refine (M.out _ h).mono ?_; rintro e w1 ⟨x, y, rfl, x0, x1, y0, y1, hT, hb⟩
  clear A0 A1 A2 A3 A4 A5 M
  replace A := A.keep hb
  replace K := below_two K hb
  replace h := h.below hb
  replace hD := hD.below hb
  have HT := Lib.hid hT
  clear hb hT
  obtain ⟨A0, A1, A2, A3, A4, A5⟩ := A.cells
  go_wp2_with fail
  refine (O.out _ hD).mono ?_; rintro e w2 ⟨rfl, n, rfl⟩
  clear A0 A1 A2 A3 A4 A5 O
  have hb : Below w1.heap.size w1 (w1.drewN n) := below_drewN (Below.refl _ _) n
  replace A := A.keep hb
  replace K := below_two K hb
  replace h := h.below hb
  replace hD := hD.below hb
  generalize w1.drewN n = w2 at *
  clear hb
  obtain ⟨A0, A1, A2, A3, A4, A5⟩ := A.cells
  cases hd : declV ds
  · have hz1 : z = -1 := by rw [HZ.out]; unfold TSV; rw [if_neg (fun e => by rw [hd] at e; cases e.1)]
    subst hz1
    clear HZ hd HT
    go_wp2_with fail
    go_ret
    exact ⟨rfl, K⟩
  by_cases hc : NN d ks ≤ 20 ∧ DD d ks ≤ 7
  · have hz1 : z = SV1 ds op p q nm (kS ds d ks) := by rw [HZ.out]; unfold TSV; rw [if_pos ⟨hd, hc⟩]
    have hxy := HT.out.1 hc
    have hx : ¬ (20 : Int) < x := by omega
    have hy : ¬ (7 : Int) < y := by omega
    have C : Hid (∀ w', Decls w' (.slice va ds.length vc) ds → SIn d w' (.slice sa ks.length sc) ks → Calls Tryz.prog 25 #[.slice va ds.length vc, .agg #[.int .i64 op, .int .i64 p, .int .i64 q, .string nm, .slice sa ks.length sc]] w' fun e w2 => e = .returned (.int .i64 z) ∧ Below w'.heap.size w' w2) := fun w' h1 h2 => by
      rw [hz1]; exact l2Sort_any ds (DW_of (declV_true.1 hd)) d _ op p q nm _ ks w' h1 h2
    clear hz1 hxy HZ HT hc hd
    go_wp2_with fail
    refine (C.out _ hD h).mono ?_; rintro e w3 ⟨rfl, hb⟩
    replace K := below_two K hb
    go_wp2_with fail
    go_ret
    exact ⟨rfl, K⟩
  · have hz1 : z = -1 := by rw [HZ.out]; unfold TSV; rw [if_neg (fun e => hc e.2)]
    have hxy := HT.out.2 hc
    have hx : (20 : Int) < x := by omega
    subst hz1
    clear HZ HT hxy hc hd
    go_wp2_with fail
    go_ret
    exact ⟨rfl, K⟩

set_option linter.unusedVariables false in
set_option maxRecDepth 100000 in
set_option maxHeartbeats 8000000 in
theorem termSort_impl (v : Value) (ds : List Dc) (d : Nat) (op p q : Int) (nm : ByteArray) (s : Value) (ks : List Tm) (w : World) (hD : Decls w v ds) (h : SIn d w s ks) (hW : TW d ks) (hop : (Lit.int .i64 op).wf = true) :
    Calls Tryz.prog 18 #[v, .agg #[.int .i64 op, .int .i64 p, .int .i64 q, .string nm, s]] w fun e w' => e = .returned (.int .i64 (TSV ds d op p q nm ks)) ∧ Below w.heap.size w w' := by
  obtain ⟨sa, sc, es, _⟩ := h.form
  subst es
  obtain ⟨va, vc, ev, _⟩ := hD.form
  subst ev
  have K := below_self_alloc w (.cells #[.int .i64 op, .int .i64 p, .int .i64 q, .string nm, .slice sa ks.length sc] 33)
  have A := blk5_new w (.int .i64 op) (.int .i64 p) (.int .i64 q) (.string nm) (.slice sa ks.length sc) 33
  replace h := h.below K
  replace hD := hD.below K
  have M := Lib.hid (fun w' h' => termMany_impl d op p q nm (.slice sa ks.length sc) ks w' h')
  have O := Lib.hid (fun w' h' => declOk_impl (.slice va ds.length vc) ds w' h')
  obtain ⟨z, hz⟩ : ∃ z, z = TSV ds d op p q nm ks := ⟨_, rfl⟩
  rw [← hz]
  have HZ := Lib.hid hz
  clear hz
  obtain ⟨A0, A1, A2, A3, A4, A5⟩ := A.cells
  go_enter Tryz.func18, Tryz.ntmps18
  go_wp2_with fail
  refine (M.out _ h).mono ?_; rintro e w1 ⟨x, y, rfl, x0, x1, y0, y1, hT, hb⟩
  clear A0 A1 A2 A3 A4 A5 M
  replace A := A.keep hb
  replace K := below_two K hb
  replace h := h.below hb
  replace hD := hD.below hb
  have HT := Lib.hid hT
  clear hb hT
  obtain ⟨A0, A1, A2, A3, A4, A5⟩ := A.cells
  go_wp2_with fail
  refine (O.out _ hD).mono ?_; rintro e w2 ⟨rfl, hb⟩
  clear A0 A1 A2 A3 A4 A5 O
  replace A := A.keep hb
  replace K := below_two K hb
  replace h := h.below hb
  replace hD := hD.below hb
  clear hb
  obtain ⟨A0, A1, A2, A3, A4, A5⟩ := A.cells
  cases hd : declV ds
  · have hz1 : z = -1 := by rw [HZ.out]; unfold TSV; rw [if_neg (fun e => by rw [hd] at e; cases e.1)]
    subst hz1
    clear HZ hd HT
    go_wp2_with fail
    go_ret
    exact ⟨rfl, K⟩
  by_cases hc : NN d ks ≤ 20 ∧ DD d ks ≤ 7
  · have hz1 : z = SV1 ds op p q nm (kS ds d ks) := by rw [HZ.out]; unfold TSV; rw [if_pos ⟨hd, hc⟩]
    have hxy := HT.out.1 hc
    have hx : ¬ (20 : Int) < x := by omega
    have C : Hid (∀ w' b, KMap w' b → Decls w' (.slice va ds.length vc) ds → SIn d w' (.slice sa ks.length sc) ks → Calls Tryz.prog 31 #[.map (some b), .slice va ds.length vc, .agg #[.int .i64 op, .int .i64 p, .int .i64 q, .string nm, .slice sa ks.length sc]] w' fun e w2 => e = .returned (.int .i64 z) ∧ Below w'.heap.size w' w2) := fun w' b h0 h1 h2 => by
      rw [hz1]; exact sortOf_any ds (DW_of (declV_true.1 hd)) d b _ op p q nm _ ks w' h0 h1 h2 hW hop
    clear hz1 hxy HZ HT hc hd A0 A1 A2 A3 A4 A5
    go_wp2_with fail
    replace A := A.drew
    replace K := K.drew
    replace h := h.drew
    replace hD := hD.drew
    have sS := And.intro A.cells.1 (And.intro A.cells.2.1 (And.intro A.cells.2.2.1 (And.intro A.cells.2.2.2.1 A.cells.2.2.2.2.1)))
    go_region_held3 (fun wx : World => wx.cell? ⟨w.heap.size, 0, none⟩ = some (.int .i64 op) ∧ wx.cell? ⟨w.heap.size, 1, none⟩ = some (.int .i64 p) ∧ wx.cell? ⟨w.heap.size, 2, none⟩ = some (.int .i64 q) ∧ wx.cell? ⟨w.heap.size, 3, none⟩ = some (.string nm) ∧ wx.cell? ⟨w.heap.size, 4, none⟩ = some (.slice sa ks.length sc)) (first | (with_reducible assumption)) (first | (go_at_call 20; (with_reducible refine (kinds_any _).mono ?_); rintro e w3 ⟨kb, rfl, hM, hb⟩; replace A := A.keep hb; replace K := below_two K hb; replace h := h.below hb; replace hD := hD.below hb; clear hb; replace sS := And.intro A.cells.1 (And.intro A.cells.2.1 (And.intro A.cells.2.2.1 (And.intro A.cells.2.2.2.1 A.cells.2.2.2.2.1)))) | (go_at_call 31; (with_reducible refine (C.out _ _ hM hD h).mono ?_); rintro e w4 ⟨rfl, hb⟩; replace A := A.keep hb; replace K := below_two K hb; clear hb; replace sS := And.intro A.cells.1 (And.intro A.cells.2.1 (And.intro A.cells.2.2.1 (And.intro A.cells.2.2.2.1 A.cells.2.2.2.2.1)))))
    go_wp2_with fail
    go_ret
    exact ⟨rfl, K⟩
  · have hz1 : z = -1 := by rw [HZ.out]; unfold TSV; rw [if_neg (fun e => hc e.2)]
    have hxy := HT.out.2 hc
    have hx : (20 : Int) < x := by omega
    subst hz1
    clear HZ HT hxy hc hd
    go_wp2_with fail
    go_ret
    exact ⟨rfl, K⟩
end Go.Proofs.YtfkanemjedndgaaGreatDoor
