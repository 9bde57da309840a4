/- The sort of a term, as the reference finds it. The conditions stand in each statement. -/
import Derived.Test.YtfkanemjedndgaaGreatDoorKl
namespace Go.Proofs.YtfkanemjedndgaaGreatDoor
open Go.RowKit

def SortS (ds : List Dc) (d : Nat) : Prop := ∀ (v : Value) (op p q : Int) (nm : ByteArray) (s : Value) (ks : List Tm) (w : World), Decls w v ds → SIn d w s ks →
  Calls Tryz.prog 25 #[v, .agg #[.int .i64 op, .int .i64 p, .int .i64 q, .string nm, s]] w fun e w' => e = .returned (.int .i64 (SV1 ds op p q nm (kS ds d ks))) ∧ Below w.heap.size w w'
theorem known_of {op : Int} {n : Nat} (h : (n : Int) = arity op) : known op = true := by
  cases hk : known op with
  | true => rfl
  | false =>
    have hn : ¬ ((1 ≤ op ∧ op ≤ 17) ∨ (20 ≤ op ∧ op ≤ 27)) := by unfold known at hk; simp at hk; omega
    unfold arity at h
    rw [if_neg (by omega), if_neg (by omega), if_neg (by omega), if_neg (by omega)] at h
    omega
theorem SV1_zero {ds : List Dc} {op a b : Int} {nm : ByteArray} (hp : plainB op a b nm = true) (ha : 0 = arity op) : SV1 ds op a b nm [] = SVb ds op a b nm [] :=
  SV1_yes ⟨known_of (n := 0) ha, ha, hp, fun _ h => by cases h⟩
theorem SV1_one {ds : List Dc} {op a b : Int} {nm : ByteArray} {ss : List Int} (hl : ss.length = 1) (hp : plainB op a b nm = true) (ha : 1 = arity op) (hs : SB ss) : SV1 ds op a b nm ss = oneV op a b (ss.getD 0 0) := by
  have hk := known_of (n := 1) ha
  obtain ⟨r, rfl⟩ := List.length_eq_one_iff.1 hl
  have h0 : -1 ≤ r ∧ r ≤ 4 := hs 0
  have hop : op = 1 ∨ op = 2 ∨ op = 22 ∨ op = 25 := by
    unfold arity at ha; unfold known at hk; simp at hk
    by_cases c1 : op = 20 ∨ op = 21 ∨ op = 24
    · rw [if_pos c1] at ha; omega
    rw [if_neg c1] at ha
    by_cases c2 : op = 1 ∨ op = 2 ∨ op = 22 ∨ op = 25
    · exact c2
    rw [if_neg c2] at ha
    by_cases c3 : op = 23
    · rw [if_pos c3] at ha; omega
    rw [if_neg c3, if_pos (by omega)] at ha; omega
  show _ = oneV op a b r
  by_cases hr : r = -1
  · subst hr
    rw [SV1_no (fun e => e.2.2.2 (-1) (by simp) rfl)]
    unfold oneV orNo
    repeat' split
    all_goals first | rfl | omega
  · rw [SV1_yes ⟨hk, by simpa using ha, hp, fun s hs => by rw [List.mem_singleton.1 hs]; exact hr⟩]
    rcases hop with rfl | rfl | rfl | rfl
    · rw [SVb_un (.inl rfl)]; rfl
    · rw [SVb_un (.inr rfl)]; rfl
    · rw [SVb_cut rfl]
      show orNo (0 ≤ b ∧ b ≤ a ∧ a < r) _ = oneV 22 a b r
      unfold oneV orNo
      rw [if_neg (show ¬ (22 : Int) = 25 by omega), if_pos rfl]
      by_cases c : 0 ≤ b ∧ b ≤ a ∧ a < r
      · rw [if_pos c, if_pos ⟨by omega, c⟩]
      · rw [if_neg c, if_neg (fun e => c e.2)]
    · rw [SVb_bool (n := 1) (by omega)]
      show orNo (∀ s ∈ [r], s = 0) 0 = oneV 25 a b r
      unfold oneV orNo
      rw [if_pos rfl]
      by_cases c : r = 0
      · rw [if_pos (by simpa using c), if_pos c]
      · rw [if_neg (by simpa using c), if_neg c]
theorem SV1_two {ds : List Dc} {op a b : Int} {nm : ByteArray} {ss : List Int} (hl : ss.length = 2) (hp : plainB op a b nm = true) (ha : 2 = arity op) (hs : SB ss) : SV1 ds op a b nm ss = bothV op (ss.getD 0 0) (ss.getD 1 0) := by
  have hk := known_of (n := 2) ha
  obtain ⟨r, q, rfl⟩ : ∃ r q, ss = [r, q] := by
    match ss, hl with
    | [r, q], _ => exact ⟨r, q, rfl⟩
  have h0 : -1 ≤ r ∧ r ≤ 4 := hs 0
  have h1 : -1 ≤ q ∧ q ≤ 4 := hs 1
  have hop : op = 26 ∨ op = 27 ∨ (3 ≤ op ∧ op ≤ 17) := by
    unfold arity at ha; unfold known at hk; simp at hk
    by_cases c1 : op = 20 ∨ op = 21 ∨ op = 24
    · rw [if_pos c1] at ha; omega
    rw [if_neg c1] at ha
    by_cases c2 : op = 1 ∨ op = 2 ∨ op = 22 ∨ op = 25
    · rw [if_pos c2] at ha; omega
    rw [if_neg c2] at ha
    by_cases c3 : op = 23
    · rw [if_pos c3] at ha; omega
    omega
  show _ = bothV op r q
  by_cases hr : r = -1 ∨ q = -1
  · rw [SV1_no (fun e => by
      rcases hr with hr | hr
      · exact e.2.2.2 r (by simp) hr
      · exact e.2.2.2 q (by simp) hr)]
    unfold bothV orNo
    repeat' split
    all_goals first | rfl | omega
  · rw [SV1_yes ⟨hk, by simpa using ha, hp, fun s hs => by simp at hs; omega⟩]
    unfold bothV
    by_cases c26 : op = 26 ∨ op = 27
    · rw [if_pos c26, SVb_bool (n := 2) (by omega)]
      show orNo (∀ s ∈ [r, q], s = 0) 0 = _
      unfold orNo
      by_cases c : r = 0 ∧ q = 0
      · rw [if_pos (by simpa using c), if_pos c]
      · rw [if_neg (by simpa using c), if_neg c]
    rw [if_neg c26]
    by_cases c14 : op = 14
    · rw [if_pos c14, SVb_cat c14]; rfl
    rw [if_neg c14]
    by_cases c15 : 15 ≤ op
    · rw [if_pos c15, SVb_cmp (by omega)]; rfl
    · rw [if_neg c15, SVb_bin (by omega)]; rfl
def ifV (r q u : Int) : Int := if r = 0 ∧ q = u then q else -1
theorem SV1_three {ds : List Dc} {op a b : Int} {nm : ByteArray} {ss : List Int} (hl : ss.length = 3) (hp : plainB op a b nm = true) (ha : 3 = arity op) (hs : SB ss) : SV1 ds op a b nm ss = ifV (ss.getD 0 0) (ss.getD 1 0) (ss.getD 2 0) := by
  have hk := known_of (n := 3) ha
  obtain ⟨r, q, u, rfl⟩ : ∃ r q u, ss = [r, q, u] := by
    match ss, hl with
    | [r, q, u], _ => exact ⟨r, q, u, rfl⟩
  have hop : op = 23 := by
    unfold arity at ha
    by_cases c1 : op = 20 ∨ op = 21 ∨ op = 24
    · rw [if_pos c1] at ha; omega
    rw [if_neg c1] at ha
    by_cases c2 : op = 1 ∨ op = 2 ∨ op = 22 ∨ op = 25
    · rw [if_pos c2] at ha; omega
    rw [if_neg c2] at ha
    by_cases c3 : op = 23
    · exact c3
    rw [if_neg c3] at ha
    split at ha <;> omega
  show _ = ifV r q u
  unfold ifV
  by_cases hr : r = -1 ∨ q = -1 ∨ u = -1
  · rw [SV1_no (fun e => by
      rcases hr with hr | hr | hr
      · exact e.2.2.2 r (by simp) hr
      · exact e.2.2.2 q (by simp) hr
      · exact e.2.2.2 u (by simp) hr)]
    split <;> omega
  · rw [SV1_yes ⟨hk, by simpa using ha, hp, fun s hs => by simp at hs; omega⟩, SVb_if hop]
    rfl

set_option linter.unusedVariables false in
set_option maxRecDepth 100000 in
set_option maxHeartbeats 8000000 in
theorem l2Sort_step (ds : List Dc) (hdw : DW ds) (d : Nat) (IH : ∀ d', d = d' + 1 → SortS ds d') : SortS ds d := by
  intro v op p q nm s ks w hD h
  have hks := kS_len (ds := ds) h
  have hkb := kS_bd hdw d ks
  have hl := h.len
  obtain ⟨sa, sc, es, _⟩ := h.form
  subst es
  obtain ⟨va, vc, ev, _⟩ := hD.form
  subst ev
  have K := below_self_alloc w (.cells #[.int .i64 op, .int .i64 p, .int .i64 q, .string nm, .slice sa ks.length sc] 33)
  have A := blk5_new w (.int .i64 op) (.int .i64 p) (.int .i64 q) (.string nm) (.slice sa ks.length sc) 33
  replace h := h.below K
  replace hD := hD.below K
  have P := Lib.hid (fun w' => l2Plain_any op p q nm sa ks.length sc w')
  obtain ⟨z, hz⟩ : ∃ z, z = SV1 ds op p q nm (kS ds d ks) := ⟨_, rfl⟩
  rw [← hz]
  have HZ := Lib.hid hz
  have HKS := Lib.hid hks
  have HKB := Lib.hid hkb
  clear hz hks hkb
  obtain ⟨A0, A1, A2, A3, A4, A5⟩ := A.cells
  by_cases hp2 : plain2 op p q nm ks.length = true
  rotate_left
  · have hz1 : z = -1 := by
      rw [HZ.out]; refine SV1_no (fun e => hp2 ?_)
      unfold plain2
      have e1 := e.2.1
      rw [HKS.out] at e1
      rw [e.2.2.1, decide_eq_true e1]; rfl
    subst hz1
    have hp3 : plain2 op p q nm ks.length = false := by simpa using hp2
    rw [hp3] at P
    clear hp2 hp3 HZ
    go_enter Tryz.func25, Tryz.ntmps25
    go_wp2_with fail
    refine (P.out _).mono ?_; rintro e w1 ⟨rfl, hb⟩
    clear A0 A1 A2 A3 A4 A5
    replace K := below_two K hb
    go_wp2_with fail
    go_ret
    exact ⟨rfl, K⟩
  rw [hp2] at P
  obtain ⟨hpl, har⟩ : plainB op p q nm = true ∧ (ks.length : Int) = arity op := by
    unfold plain2 at hp2; simpa using hp2
  clear hp2
  by_cases h20 : op = 20
  · have hk0 : kS ds d ks = [] := List.length_eq_zero_iff.1 (by rw [HKS.out]; unfold arity at har; rw [if_pos (by omega)] at har; omega)
    have hz1 : z = orNo (vokB p q = true) p := by
      rw [HZ.out, hk0, SV1_zero hpl (by unfold arity; rw [if_pos (by omega)]), SVb_vec h20]
    subst h20
    have V := Lib.hid (fun w' => vecOk_spec p q w')
    clear HZ hk0 hpl har
    cases hv : vokB p q
    · have hz2 : z = -1 := by rw [hz1, hv]; rfl
      rw [hv] at V
      subst hz2
      clear hv hz1
      go_enter Tryz.func25, Tryz.ntmps25
      go_wp2_with fail
      refine (P.out _).mono ?_; rintro e w1 ⟨rfl, hb⟩
      clear A0 A1 A2 A3 A4 A5 P
      replace A := A.keep hb
      replace K := below_two K hb
      replace h := h.below hb
      replace hD := hD.below hb
      clear hb
      obtain ⟨A0, A1, A2, A3, A4, A5⟩ := A.cells
      go_wp2_with fail
      refine (V.out _).mono ?_; rintro e w2 ⟨rfl, hb⟩
      clear A0 A1 A2 A3 A4 A5 V
      replace A := A.keep hb
      replace K := below_two K hb
      obtain ⟨A0, A1, A2, A3, A4, A5⟩ := A.cells
      go_wp2_with fail
      go_ret
      exact ⟨rfl, K⟩
    · have hz2 : z = p := by rw [hz1, hv]; rfl
      rw [hv] at V
      subst hz2
      clear hv hz1
      go_enter Tryz.func25, Tryz.ntmps25
      go_wp2_with fail
      refine (P.out _).mono ?_; rintro e w1 ⟨rfl, hb⟩
      clear A0 A1 A2 A3 A4 A5 P
      replace A := A.keep hb
      replace K := below_two K hb
      replace h := h.below hb
      replace hD := hD.below hb
      clear hb
      obtain ⟨A0, A1, A2, A3, A4, A5⟩ := A.cells
      go_wp2_with fail
      refine (V.out _).mono ?_; rintro e w2 ⟨rfl, hb⟩
      clear A0 A1 A2 A3 A4 A5 V
      replace A := A.keep hb
      replace K := below_two K hb
      obtain ⟨A0, A1, A2, A3, A4, A5⟩ := A.cells
      go_wp2_with fail
      go_ret
      exact ⟨rfl, K⟩
  have e20 : (op == 20) = false := by simpa using h20
  by_cases h21 : op = 21
  · have hk0 : kS ds d ks = [] := List.length_eq_zero_iff.1 (by rw [HKS.out]; unfold arity at har; rw [if_pos (by omega)] at har; omega)
    have hz1 : z = orNo (0 ≤ findV ds nm ds.length) (ds.getD (findV ds nm ds.length).toNat dz).2 := by
      rw [HZ.out, hk0, SV1_zero hpl (by unfold arity; rw [if_pos (by omega)]), SVb_name h21]
    subst h21
    have hbd := findV_bd ds nm ds.length
    have hln := hD.len
    have F : Hid (∀ w' v, Decls w' v ds → Calls Tryz.prog 41 #[v, .string nm] w' fun e w2 => e = .returned (.int .i64 (findV ds nm ds.length)) ∧ w' = w2) := fun w' v h => l2Find_any v ds ds.length nm w' (by obtain ⟨a, c, e, hr, _⟩ := h; exact ⟨a, c, e, hr⟩) hln
    clear HZ hk0 hpl har h20
    by_cases hf : 0 ≤ findV ds nm ds.length
    · have hz2 : z = (ds.getD (findV ds nm ds.length).toNat dz).2 := by rw [hz1]; unfold orNo; rw [if_pos hf]
      obtain ⟨k, hk⟩ : ∃ k : Nat, findV ds nm ds.length = k := ⟨(findV ds nm ds.length).toNat, by omega⟩
      rw [hk] at hbd hz2 F
      rw [Int.toNat_natCast] at hz2
      have HZ2 := Lib.hid hz2
      clear hz1 hz2 hf hk
      go_enter Tryz.func25, Tryz.ntmps25
      go_wp2_with fail
      refine (P.out _).mono ?_; rintro e w1 ⟨rfl, hb⟩
      clear A0 A1 A2 A3 A4 A5 P
      replace A := A.keep hb
      replace K := below_two K hb
      replace h := h.below hb
      replace hD := hD.below hb
      clear hb
      obtain ⟨A0, A1, A2, A3, A4, A5⟩ := A.cells
      go_wp2_with fail
      refine (F.out _ _ hD).mono ?_; rintro e w2 ⟨rfl, rfl⟩
      clear F
      obtain ⟨va', vc', e', hr, _⟩ := hD
      cases e'
      obtain ⟨g, off, rfl, _, c0, c1⟩ := hr.duo (k := k) (by omega)
      have hk0 : ¬ (k : Int) < 0 := by omega
      have hk1 : (k : Int) < (ds.length : Int) := by omega
      clear hr
      go_wp2_with fail
      go_ret
      exact ⟨by rw [HZ2.out]; rfl, K⟩
    · have hz2 : z = -1 := by rw [hz1]; unfold orNo; rw [if_neg hf]
      have hf2 : findV ds nm ds.length = -1 := by omega
      rw [hf2] at F
      subst hz2
      clear hz1 hf hf2 hbd
      go_enter Tryz.func25, Tryz.ntmps25
      go_wp2_with fail
      refine (P.out _).mono ?_; rintro e w1 ⟨rfl, hb⟩
      clear A0 A1 A2 A3 A4 A5 P
      replace A := A.keep hb
      replace K := below_two K hb
      replace h := h.below hb
      replace hD := hD.below hb
      clear hb
      obtain ⟨A0, A1, A2, A3, A4, A5⟩ := A.cells
      go_wp2_with fail
      refine (F.out _ _ hD).mono ?_; rintro e w2 ⟨rfl, rfl⟩
      clear F
      go_wp2_with fail
      go_ret
      exact ⟨rfl, K⟩
  have e21 : (op == 21) = false := by simpa using h21
  by_cases h24 : op = 24
  · have hk0 : kS ds d ks = [] := List.length_eq_zero_iff.1 (by rw [HKS.out]; unfold arity at har; rw [if_pos (by omega)] at har; omega)
    have hz1 : z = 0 := by
      rw [HZ.out, hk0, SV1_zero hpl (by unfold arity; rw [if_pos (by omega)]), SVb_bool (n := 0) (by omega)]
      unfold orNo; rw [if_pos (fun s hs => by cases hs)]
    subst h24 hz1
    clear HZ hk0 hpl har h20 h21
    go_enter Tryz.func25, Tryz.ntmps25
    go_wp2_with fail
    refine (P.out _).mono ?_; rintro e w1 ⟨rfl, hb⟩
    clear A0 A1 A2 A3 A4 A5 P
    replace A := A.keep hb
    replace K := below_two K hb
    replace h := h.below hb
    replace hD := hD.below hb
    clear hb
    obtain ⟨A0, A1, A2, A3, A4, A5⟩ := A.cells
    go_wp2_with fail
    go_ret
    exact ⟨rfl, K⟩
  have e24 : (op == 24) = false := by simpa using h24
  have hn : ks.length = 1 ∨ ks.length = 2 ∨ ks.length = 3 := by
    have hk := known_of har
    unfold arity at har; unfold known at hk; simp at hk
    rw [if_neg (by omega)] at har
    by_cases c2 : op = 1 ∨ op = 2 ∨ op = 22 ∨ op = 25
    · rw [if_pos c2] at har; omega
    rw [if_neg c2] at har
    by_cases c3 : op = 23
    · rw [if_pos c3] at har; omega
    rw [if_neg c3, if_pos (by omega)] at har; omega
  have HPL := Lib.hid hpl
  have HAR := Lib.hid har
  clear h20 h21 h24 hpl har
  cases d with
  | zero => obtain ⟨rfl, _⟩ := h; simp at hn
  | succ d =>
    have IH2 : Hid (∀ (v : Value) (x : Tm) (s : Value) (w : World), Decls w v ds → SIn d w s x.ks → Calls Tryz.prog 25 #[v, .agg #[.int .i64 x.op, .int .i64 x.a, .int .i64 x.b, .string x.nm, s]] w fun e w' => e = .returned (.int .i64 (SV1 ds x.op x.a x.b x.nm (kS ds d x.ks))) ∧ Below w.heap.size w w') := fun v x s w h1 h2 => IH d rfl v x.op x.a x.b x.nm s x.ks w h1 h2
    clear IH
    rcases hn with hn | hn | hn
    · have hn1 : ((ks.length : Int) == 1) = true := by rw [hn]; rfl
      have hn0 : (0 : Int) < (ks.length : Int) := by omega
      obtain ⟨r0, hr0⟩ : ∃ r, r = (kS ds (d + 1) ks).getD 0 0 := ⟨_, rfl⟩
      have B0 := HKB.out 0
      rw [← hr0] at B0
      have R0 : Hid (r0 = SV1 ds (ks.getD 0 tz).op (ks.getD 0 tz).a (ks.getD 0 tz).b (ks.getD 0 tz).nm (kS ds d (ks.getD 0 tz).ks)) := hr0.trans (kS_at (by omega))
      have hz1 : Hid (z = oneV op p q r0) := by
        show _ = _
        rw [HZ.out, SV1_one (by rw [HKS.out]; exact hn) HPL.out (by rw [← HAR.out, hn]; rfl) HKB.out, ← hr0]
      have HN := Lib.hid hn
      have O := Lib.hid (fun s w' => l2One_any op p q nm s r0 w' B0.2)
      clear HZ HKB HAR hr0
      clear hn
      go_enter Tryz.func25, Tryz.ntmps25
      go_wp2_with fail
      refine (P.out _).mono ?_; rintro e w1 ⟨rfl, hb⟩
      clear A0 A1 A2 A3 A4 A5 P
      replace A := A.keep hb
      replace K := below_two K hb
      replace h := h.below hb
      replace hD := hD.below hb
      clear hb
      obtain ⟨A0, A1, A2, A3, A4, A5⟩ := A.cells
      have hx := h
      obtain ⟨a', cap', S, e, hr, hnm, hkk⟩ := hx
      cases e
      obtain ⟨bb, off, esa, _, c00, c01, c02, c03, c04⟩ := hr.five (k := 0) (by have := HN.out; omega)
      cases esa
      have H0 := hkk 0 (by have := HN.out; omega)
      obtain ⟨ka, kc, es, _⟩ := H0.form
      rw [es] at c04 H0
      have C0 : Hid (∀ w', Decls w' (.slice va ds.length vc) ds → SIn d w' (.slice ka (ks.getD 0 tz).ks.length kc) (ks.getD 0 tz).ks → Calls Tryz.prog 25 #[.slice va ds.length vc, .agg #[.int .i64 (ks.getD 0 tz).op, .int .i64 (ks.getD 0 tz).a, .int .i64 (ks.getD 0 tz).b, .string (ks.getD 0 tz).nm, .slice ka (ks.getD 0 tz).ks.length kc]] w' fun e w2 => e = .returned (.int .i64 r0) ∧ Below w'.heap.size w' w2) := fun w' h1 h2 => by
        rw [R0.out]; exact IH2.out _ (ks.getD 0 tz) _ w' h1 h2
      clear hr hnm hkk es
      generalize ks.getD 0 tz = x0 at *
      rw [Nat.zero_mul, Nat.add_zero] at c00 c01 c02 c03 c04
      go_wp2_with fail
      refine (C0.out _ hD H0).mono ?_; rintro e w2 ⟨rfl, hb⟩
      clear A0 A1 A2 A3 A4 A5
      clear c00 c01 c02 c03 c04
      replace A := A.keep hb
      replace K := below_two K hb
      replace h := h.below hb
      replace hD := hD.below hb
      clear hb C0 H0
      obtain ⟨A0, A1, A2, A3, A4, A5⟩ := A.cells
      go_wp2_with fail
      refine (O.out _ _).mono ?_; rintro e w3 ⟨rfl, hb⟩
      replace K := below_two K hb
      go_wp2_with fail
      go_ret
      exact ⟨by rw [hz1.out]; rfl, K⟩
    · have hn1 : ((ks.length : Int) == 1) = false := by rw [hn]; rfl
      have hn2 : ((ks.length : Int) == 2) = true := by rw [hn]; rfl
      have hn0 : (0 : Int) < (ks.length : Int) := by omega
      have hn3 : (1 : Int) < (ks.length : Int) := by omega
      obtain ⟨r0, hr0⟩ : ∃ r, r = (kS ds (d + 1) ks).getD 0 0 := ⟨_, rfl⟩
      have B0 := HKB.out 0
      rw [← hr0] at B0
      have R0 : Hid (r0 = SV1 ds (ks.getD 0 tz).op (ks.getD 0 tz).a (ks.getD 0 tz).b (ks.getD 0 tz).nm (kS ds d (ks.getD 0 tz).ks)) := hr0.trans (kS_at (by omega))
      obtain ⟨r1, hr1⟩ : ∃ r, r = (kS ds (d + 1) ks).getD 1 0 := ⟨_, rfl⟩
      have B1 := HKB.out 1
      rw [← hr1] at B1
      have R1 : Hid (r1 = SV1 ds (ks.getD 1 tz).op (ks.getD 1 tz).a (ks.getD 1 tz).b (ks.getD 1 tz).nm (kS ds d (ks.getD 1 tz).ks)) := hr1.trans (kS_at (by omega))
      have hz1 : Hid (z = bothV op r0 r1) := by
        show _ = _
        rw [HZ.out, SV1_two (by rw [HKS.out]; exact hn) HPL.out (by rw [← HAR.out, hn]; rfl) HKB.out, ← hr0, ← hr1]
      have HN := Lib.hid hn
      have O := Lib.hid (fun w' => l2Both_any op r0 r1 w' B0 B1)
      clear HZ HKB HAR hr0 hr1
      clear hn
      go_enter Tryz.func25, Tryz.ntmps25
      go_wp2_with fail
      refine (P.out _).mono ?_; rintro e w1 ⟨rfl, hb⟩
      clear A0 A1 A2 A3 A4 A5 P
      replace A := A.keep hb
      replace K := below_two K hb
      replace h := h.below hb
      replace hD := hD.below hb
      clear hb
      obtain ⟨A0, A1, A2, A3, A4, A5⟩ := A.cells
      have hx := h
      obtain ⟨a', cap', S, e, hr, hnm, hkk⟩ := hx
      cases e
      obtain ⟨bb, off, esa, _, c00, c01, c02, c03, c04⟩ := hr.five (k := 0) (by have := HN.out; omega)
      cases esa
      have H0 := hkk 0 (by have := HN.out; omega)
      obtain ⟨ka, kc, es, _⟩ := H0.form
      rw [es] at c04 H0
      have C0 : Hid (∀ w', Decls w' (.slice va ds.length vc) ds → SIn d w' (.slice ka (ks.getD 0 tz).ks.length kc) (ks.getD 0 tz).ks → Calls Tryz.prog 25 #[.slice va ds.length vc, .agg #[.int .i64 (ks.getD 0 tz).op, .int .i64 (ks.getD 0 tz).a, .int .i64 (ks.getD 0 tz).b, .string (ks.getD 0 tz).nm, .slice ka (ks.getD 0 tz).ks.length kc]] w' fun e w2 => e = .returned (.int .i64 r0) ∧ Below w'.heap.size w' w2) := fun w' h1 h2 => by
        rw [R0.out]; exact IH2.out _ (ks.getD 0 tz) _ w' h1 h2
      clear hr hnm hkk es
      generalize ks.getD 0 tz = x0 at *
      rw [Nat.zero_mul, Nat.add_zero] at c00 c01 c02 c03 c04
      go_wp2_with fail
      refine (C0.out _ hD H0).mono ?_; rintro e w2 ⟨rfl, hb⟩
      clear A0 A1 A2 A3 A4 A5
      clear c00 c01 c02 c03 c04
      replace A := A.keep hb
      replace K := below_two K hb
      replace h := h.below hb
      replace hD := hD.below hb
      clear hb C0 H0
      obtain ⟨A0, A1, A2, A3, A4, A5⟩ := A.cells
      have hx := h
      obtain ⟨a', cap', S, e, hr, hnm, hkk⟩ := hx
      cases e
      obtain ⟨bb, off, esa, _, c10, c11, c12, c13, c14⟩ := hr.five (k := 1) (by have := HN.out; omega)
      cases esa
      have H1 := hkk 1 (by have := HN.out; omega)
      obtain ⟨ka, kc, es, _⟩ := H1.form
      rw [es] at c14 H1
      have C1 : Hid (∀ w', Decls w' (.slice va ds.length vc) ds → SIn d w' (.slice ka (ks.getD 1 tz).ks.length kc) (ks.getD 1 tz).ks → Calls Tryz.prog 25 #[.slice va ds.length vc, .agg #[.int .i64 (ks.getD 1 tz).op, .int .i64 (ks.getD 1 tz).a, .int .i64 (ks.getD 1 tz).b, .string (ks.getD 1 tz).nm, .slice ka (ks.getD 1 tz).ks.length kc]] w' fun e w2 => e = .returned (.int .i64 r1) ∧ Below w'.heap.size w' w2) := fun w' h1 h2 => by
        rw [R1.out]; exact IH2.out _ (ks.getD 1 tz) _ w' h1 h2
      clear hr hnm hkk es
      generalize ks.getD 1 tz = x1 at *
      rw [Nat.one_mul] at c10 c11 c12 c13 c14
      go_wp2_with fail
      refine (C1.out _ hD H1).mono ?_; rintro e w3 ⟨rfl, hb⟩
      clear A0 A1 A2 A3 A4 A5
      clear c10 c11 c12 c13 c14
      replace A := A.keep hb
      replace K := below_two K hb
      replace h := h.below hb
      replace hD := hD.below hb
      clear hb C1 H1
      obtain ⟨A0, A1, A2, A3, A4, A5⟩ := A.cells
      go_wp2_with fail
      refine (O.out _).mono ?_; rintro e w4 ⟨rfl, rfl⟩
      go_wp2_with fail
      go_ret
      exact ⟨by rw [hz1.out]; rfl, K⟩
    · have hn1 : ((ks.length : Int) == 1) = false := by rw [hn]; rfl
      have hn2 : ((ks.length : Int) == 2) = false := by rw [hn]; rfl
      have hn0 : (0 : Int) < (ks.length : Int) := by omega
      have hn3 : (1 : Int) < (ks.length : Int) := by omega
      have hn4 : (2 : Int) < (ks.length : Int) := by omega
      obtain ⟨r0, hr0⟩ : ∃ r, r = (kS ds (d + 1) ks).getD 0 0 := ⟨_, rfl⟩
      have B0 := HKB.out 0
      rw [← hr0] at B0
      have R0 : Hid (r0 = SV1 ds (ks.getD 0 tz).op (ks.getD 0 tz).a (ks.getD 0 tz).b (ks.getD 0 tz).nm (kS ds d (ks.getD 0 tz).ks)) := hr0.trans (kS_at (by omega))
      obtain ⟨r1, hr1⟩ : ∃ r, r = (kS ds (d + 1) ks).getD 1 0 := ⟨_, rfl⟩
      have B1 := HKB.out 1
      rw [← hr1] at B1
      have R1 : Hid (r1 = SV1 ds (ks.getD 1 tz).op (ks.getD 1 tz).a (ks.getD 1 tz).b (ks.getD 1 tz).nm (kS ds d (ks.getD 1 tz).ks)) := hr1.trans (kS_at (by omega))
      obtain ⟨r2, hr2⟩ : ∃ r, r = (kS ds (d + 1) ks).getD 2 0 := ⟨_, rfl⟩
      have B2 := HKB.out 2
      rw [← hr2] at B2
      have R2 : Hid (r2 = SV1 ds (ks.getD 2 tz).op (ks.getD 2 tz).a (ks.getD 2 tz).b (ks.getD 2 tz).nm (kS ds d (ks.getD 2 tz).ks)) := hr2.trans (kS_at (by omega))
      have hz1 : Hid (z = ifV r0 r1 r2) := by
        show _ = _
        rw [HZ.out, SV1_three (by rw [HKS.out]; exact hn) HPL.out (by rw [← HAR.out, hn]; rfl) HKB.out, ← hr0, ← hr1, ← hr2]
      have HN := Lib.hid hn
      clear HZ HKB HAR hr0 hr1 hr2 B0 B1 B2
      clear hn
      go_enter Tryz.func25, Tryz.ntmps25
      go_wp2_with fail
      refine (P.out _).mono ?_; rintro e w1 ⟨rfl, hb⟩
      clear A0 A1 A2 A3 A4 A5 P
      replace A := A.keep hb
      replace K := below_two K hb
      replace h := h.below hb
      replace hD := hD.below hb
      clear hb
      obtain ⟨A0, A1, A2, A3, A4, A5⟩ := A.cells
      have hx := h
      obtain ⟨a', cap', S, e, hr, hnm, hkk⟩ := hx
      cases e
      obtain ⟨bb, off, esa, _, c00, c01, c02, c03, c04⟩ := hr.five (k := 0) (by have := HN.out; omega)
      cases esa
      have H0 := hkk 0 (by have := HN.out; omega)
      obtain ⟨ka, kc, es, _⟩ := H0.form
      rw [es] at c04 H0
      have C0 : Hid (∀ w', Decls w' (.slice va ds.length vc) ds → SIn d w' (.slice ka (ks.getD 0 tz).ks.length kc) (ks.getD 0 tz).ks → Calls Tryz.prog 25 #[.slice va ds.length vc, .agg #[.int .i64 (ks.getD 0 tz).op, .int .i64 (ks.getD 0 tz).a, .int .i64 (ks.getD 0 tz).b, .string (ks.getD 0 tz).nm, .slice ka (ks.getD 0 tz).ks.length kc]] w' fun e w2 => e = .returned (.int .i64 r0) ∧ Below w'.heap.size w' w2) := fun w' h1 h2 => by
        rw [R0.out]; exact IH2.out _ (ks.getD 0 tz) _ w' h1 h2
      clear hr hnm hkk es
      generalize ks.getD 0 tz = x0 at *
      rw [Nat.zero_mul, Nat.add_zero] at c00 c01 c02 c03 c04
      go_wp2_with fail
      refine (C0.out _ hD H0).mono ?_; rintro e w2 ⟨rfl, hb⟩
      clear A0 A1 A2 A3 A4 A5
      clear c00 c01 c02 c03 c04
      replace A := A.keep hb
      replace K := below_two K hb
      replace h := h.below hb
      replace hD := hD.below hb
      clear hb C0 H0
      obtain ⟨A0, A1, A2, A3, A4, A5⟩ := A.cells
      have hx := h
      obtain ⟨a', cap', S, e, hr, hnm, hkk⟩ := hx
      cases e
      obtain ⟨bb, off, esa, _, c10, c11, c12, c13, c14⟩ := hr.five (k := 1) (by have := HN.out; omega)
      cases esa
      have H1 := hkk 1 (by have := HN.out; omega)
      obtain ⟨ka, kc, es, _⟩ := H1.form
      rw [es] at c14 H1
      have C1 : Hid (∀ w', Decls w' (.slice va ds.length vc) ds → SIn d w' (.slice ka (ks.getD 1 tz).ks.length kc) (ks.getD 1 tz).ks → Calls Tryz.prog 25 #[.slice va ds.length vc, .agg #[.int .i64 (ks.getD 1 tz).op, .int .i64 (ks.getD 1 tz).a, .int .i64 (ks.getD 1 tz).b, .string (ks.getD 1 tz).nm, .slice ka (ks.getD 1 tz).ks.length kc]] w' fun e w2 => e = .returned (.int .i64 r1) ∧ Below w'.heap.size w' w2) := fun w' h1 h2 => by
        rw [R1.out]; exact IH2.out _ (ks.getD 1 tz) _ w' h1 h2
      clear hr hnm hkk es
      generalize ks.getD 1 tz = x1 at *
      rw [Nat.one_mul] at c10 c11 c12 c13 c14
      go_wp2_with fail
      refine (C1.out _ hD H1).mono ?_; rintro e w3 ⟨rfl, hb⟩
      clear A0 A1 A2 A3 A4 A5
      clear c10 c11 c12 c13 c14
      replace A := A.keep hb
      replace K := below_two K hb
      replace h := h.below hb
      replace hD := hD.below hb
      clear hb C1 H1
      obtain ⟨A0, A1, A2, A3, A4, A5⟩ := A.cells
      by_cases p0 : r0 = 0
      · have q0 : (r0 != 0) = false := by simpa using p0
        have hx := h
        obtain ⟨a', cap', S, e, hr, hnm, hkk⟩ := hx
        cases e
        obtain ⟨bb, off, esa, _, c20, c21, c22, c23, c24⟩ := hr.five (k := 2) (by have := HN.out; omega)
        cases esa
        have H2 := hkk 2 (by have := HN.out; omega)
        obtain ⟨ka, kc, es, _⟩ := H2.form
        rw [es] at c24 H2
        have C2 : Hid (∀ w', Decls w' (.slice va ds.length vc) ds → SIn d w' (.slice ka (ks.getD 2 tz).ks.length kc) (ks.getD 2 tz).ks → Calls Tryz.prog 25 #[.slice va ds.length vc, .agg #[.int .i64 (ks.getD 2 tz).op, .int .i64 (ks.getD 2 tz).a, .int .i64 (ks.getD 2 tz).b, .string (ks.getD 2 tz).nm, .slice ka (ks.getD 2 tz).ks.length kc]] w' fun e w2 => e = .returned (.int .i64 r2) ∧ Below w'.heap.size w' w2) := fun w' h1 h2 => by
          rw [R2.out]; exact IH2.out _ (ks.getD 2 tz) _ w' h1 h2
        clear hr hnm hkk es
        generalize ks.getD 2 tz = x2 at *
        rw [show 2 * 5 = 10 from rfl] at c20 c21 c22 c23 c24
        by_cases p1 : r1 = r2
        · have hz2 : z = r1 := by rw [hz1.out]; unfold ifV; rw [if_pos ⟨p0, p1⟩]
          have q1 : (r1 != r2) = false := by simpa using p1
          clear p0 p1 hz1
          subst hz2
          go_wp2_with fail
          refine (C2.out _ hD H2).mono ?_; rintro e w4 ⟨rfl, hb⟩
          clear A0 A1 A2 A3 A4 A5
          clear c20 c21 c22 c23 c24
          replace A := A.keep hb
          replace K := below_two K hb
          replace h := h.below hb
          replace hD := hD.below hb
          clear hb C2 H2
          obtain ⟨A0, A1, A2, A3, A4, A5⟩ := A.cells
          go_wp2_with fail
          go_ret
          exact ⟨rfl, K⟩
        · have hz2 : z = -1 := by rw [hz1.out]; unfold ifV; rw [if_neg (fun e => p1 e.2)]
          have q1 : (r1 != r2) = true := by simpa using p1
          clear p0 p1 hz1
          subst hz2
          go_wp2_with fail
          refine (C2.out _ hD H2).mono ?_; rintro e w4 ⟨rfl, hb⟩
          clear A0 A1 A2 A3 A4 A5
          clear c20 c21 c22 c23 c24
          replace A := A.keep hb
          replace K := below_two K hb
          replace h := h.below hb
          replace hD := hD.below hb
          clear hb C2 H2
          obtain ⟨A0, A1, A2, A3, A4, A5⟩ := A.cells
          go_wp2_with fail
          go_ret
          exact ⟨rfl, K⟩
      · have q0 : (r0 != 0) = true := by simpa using p0
        have hz2 : z = -1 := by rw [hz1.out]; unfold ifV; rw [if_neg (fun e => p0 e.1)]
        clear p0 hz1
        subst hz2
        go_wp2_with fail
        go_ret
        exact ⟨rfl, K⟩
theorem l2Sort_any (ds : List Dc) (hdw : DW ds) : ∀ d, SortS ds d
  | 0 => l2Sort_step ds hdw 0 (fun _ e => by cases e)
  | d + 1 => l2Sort_step ds hdw (d + 1) (fun d' e => by cases e; exact l2Sort_any ds hdw d)
end Go.Proofs.YtfkanemjedndgaaGreatDoor
