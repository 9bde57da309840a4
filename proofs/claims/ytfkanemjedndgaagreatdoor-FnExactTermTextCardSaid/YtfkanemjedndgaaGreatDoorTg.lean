/- (XTe, its first part) Comparisons of terms: the statements', the program's and the reference's. The conditions stand in each statement. -/
import Derived.Test.YtfkanemjedndgaaGreatDoorTn
import Derived.Laws.Strings
import Derived.WideShapes
namespace Go.Proofs.YtfkanemjedndgaaGreatDoor
open Go.RowKit

/-- whether two things are one -/
noncomputable def eqv {α : Type} (x y : α) : Bool := @decide (x = y) (Classical.propDecidable _)
theorem eqv_true {α : Type} {x y : α} (h : x = y) : eqv x y = true := by exact @decide_eq_true _ (Classical.propDecidable _) h
theorem eqv_false {α : Type} {x y : α} (h : x ≠ y) : eqv x y = false := by exact @decide_eq_false _ (Classical.propDecidable _) h
theorem eqv_kids (o a b : Int) (nm : ByteArray) (ks ks' : List Tm) : eqv (Tm.node o a b nm ks) (Tm.node o a b nm ks') = eqv ks ks' := by
  by_cases h : ks = ks'
  · rw [eqv_true h, eqv_true (by rw [h])]
  · rw [eqv_false h, eqv_false (fun e => h (by cases e; rfl))]
theorem eqv_differ {o a b o' a' b' : Int} {nm nm' : ByteArray} {ks ks' : List Tm} (h : ¬ (o = o' ∧ a = a' ∧ b = b' ∧ nm = nm')) : eqv (Tm.node o a b nm ks) (Tm.node o' a' b' nm' ks') = false :=
  eqv_false (fun e => h (by cases e; exact ⟨rfl, rfl, rfl, rfl⟩))
theorem name_ne {a b : ByteArray} (h : ¬ a = b) : (a.toList == b.toList) = false := by
  have : a.toList ≠ b.toList := fun e => h (Go.WideShapes.bytes_inj (by rw [← ByteArray.toList_eq, ← ByteArray.toList_eq]; exact e))
  simpa using this
def EqRet (z : Bool) (w : World) (e : Ending) (w' : World) : Prop := e = .returned (.bool z) ∧ Below w.heap.size w w'
theorem five_keep {w w' : World} (hb : Below w.heap.size w w') {b o : Nat} {x0 x1 x2 x3 x4 : Value} (hl : b < w.heap.size) (h : w.cell? ⟨b, o, none⟩ = some x0 ∧ w.cell? ⟨b, o + 1, none⟩ = some x1 ∧ w.cell? ⟨b, o + 2, none⟩ = some x2 ∧ w.cell? ⟨b, o + 3, none⟩ = some x3 ∧ w.cell? ⟨b, o + 4, none⟩ = some x4) :
    w'.cell? ⟨b, o, none⟩ = some x0 ∧ w'.cell? ⟨b, o + 1, none⟩ = some x1 ∧ w'.cell? ⟨b, o + 2, none⟩ = some x2 ∧ w'.cell? ⟨b, o + 3, none⟩ = some x3 ∧ w'.cell? ⟨b, o + 4, none⟩ = some x4 :=
  ⟨(hb.cell (p := ⟨b, o, none⟩) hl).trans h.1, (hb.cell (p := ⟨b, o + 1, none⟩) hl).trans h.2.1, (hb.cell (p := ⟨b, o + 2, none⟩) hl).trans h.2.2.1, (hb.cell (p := ⟨b, o + 3, none⟩) hl).trans h.2.2.2.1, (hb.cell (p := ⟨b, o + 4, none⟩) hl).trans h.2.2.2.2⟩
theorem five_drew {w : World} {b o : Nat} {x0 x1 x2 x3 x4 : Value} (h : w.cell? ⟨b, o, none⟩ = some x0 ∧ w.cell? ⟨b, o + 1, none⟩ = some x1 ∧ w.cell? ⟨b, o + 2, none⟩ = some x2 ∧ w.cell? ⟨b, o + 3, none⟩ = some x3 ∧ w.cell? ⟨b, o + 4, none⟩ = some x4) :
    w.drew.cell? ⟨b, o, none⟩ = some x0 ∧ w.drew.cell? ⟨b, o + 1, none⟩ = some x1 ∧ w.drew.cell? ⟨b, o + 2, none⟩ = some x2 ∧ w.drew.cell? ⟨b, o + 3, none⟩ = some x3 ∧ w.drew.cell? ⟨b, o + 4, none⟩ = some x4 := h
theorem kid_eq {ks : List Tm} {k : Nat} : (ks.getD k tz) = Tm.node (ks.getD k tz).op (ks.getD k tz).a (ks.getD k tz).b (ks.getD k tz).nm (ks.getD k tz).ks := by
  generalize ks.getD k tz = x; cases x; rfl
theorem node_eta (x : Tm) : Tm.node x.op x.a x.b x.nm x.ks = x := by cases x; rfl

set_option linter.unusedVariables false in
set_option maxHeartbeats 4000000 in
theorem eqTerm_of {d d' : Nat} (IH : ∀ (s s' : Value) (ks ks' : List Tm) (w : World), SIn d w s ks → SIn d' w s' ks' → Calls Tryz.prog 22 #[s, s'] w (EqRet (eqv ks ks') w))
    (o a b : Int) (nm : ByteArray) (s : Value) (ks : List Tm) (o' a' b' : Int) (nm' : ByteArray) (s' : Value) (ks' : List Tm) (w : World) (h : SIn d w s ks) (h' : SIn d' w s' ks') :
    Calls Tryz.prog 11 #[.agg #[.int .i64 o, .int .i64 a, .int .i64 b, .string nm, s], .agg #[.int .i64 o', .int .i64 a', .int .i64 b', .string nm', s']] w (EqRet (eqv (Tm.node o a b nm ks) (Tm.node o' a' b' nm' ks')) w) := by
  obtain ⟨sa, sc, rfl, _⟩ := h.form
  obtain ⟨sa', sc', rfl, _⟩ := h'.form
  have hb := below_res (w := w) (o := .cells #[.int .i64 o, .int .i64 a, .int .i64 b, .string nm, .slice sa ks.length sc] 33) (o' := .cells #[.int .i64 o', .int .i64 a', .int .i64 b', .string nm', .slice sa' ks'.length sc'] 33) (Below.refl _ _)
  have H := Lib.hid (And.intro (h.below hb) (h'.below hb))
  replace IH := Lib.hid IH
  clear h h'
  by_cases h0 : o = o'
  case neg =>
    rw [eqv_differ (fun h => h0 h.1)]
    have q0 : (o == o') = false := by simpa using h0
    have p0 : (o != o') = true := by simpa using h0
    clear h0 IH
    go_enter Tryz.func11, Tryz.ntmps11
    go_wp2_with fail
    go_ret
    exact ⟨rfl, hb⟩
  subst h0
  by_cases h1 : a = a'
  case neg =>
    rw [eqv_differ (fun h => h1 h.2.1)]
    have q1 : (a == a') = false := by simpa using h1
    have p1 : (a != a') = true := by simpa using h1
    clear h1 IH
    go_enter Tryz.func11, Tryz.ntmps11
    go_wp2_with fail
    go_ret
    exact ⟨rfl, hb⟩
  subst h1
  by_cases h2 : b = b'
  case neg =>
    rw [eqv_differ (fun h => h2 h.2.2.1)]
    have q2 : (b == b') = false := by simpa using h2
    have p2 : (b != b') = true := by simpa using h2
    clear h2 IH
    go_enter Tryz.func11, Tryz.ntmps11
    go_wp2_with fail
    go_ret
    exact ⟨rfl, hb⟩
  subst h2
  by_cases h3 : nm = nm'
  case neg =>
    rw [eqv_differ (fun h => h3 h.2.2.2)]
    have q3 := name_ne h3
    clear h3 IH
    go_enter Tryz.func11, Tryz.ntmps11
    go_wp2_with fail
    go_ret
    exact ⟨rfl, hb⟩
  subst h3
  rw [eqv_kids]
  have C := Lib.hid (IH.out _ _ ks ks' _ H.out.1 H.out.2)
  generalize eqv ks ks' = z at *
  clear IH H
  cases z
  · go_enter Tryz.func11, Tryz.ntmps11
    go_wp2_with fail
    refine C.out.mono ?_; rintro e w1 ⟨rfl, hb1⟩
    go_wp2_with fail
    go_ret
    exact ⟨rfl, below_res hb1⟩
  · go_enter Tryz.func11, Tryz.ntmps11
    go_wp2_with fail
    refine C.out.mono ?_; rintro e w1 ⟨rfl, hb1⟩
    go_wp2_with fail
    go_ret
    exact ⟨rfl, below_res hb1⟩

set_option linter.unusedVariables false in
set_option maxHeartbeats 8000000 in
theorem eqTermS_any : ∀ (d d' : Nat) (s s' : Value) (ks ks' : List Tm) (w : World), SIn d w s ks → SIn d' w s' ks' → Calls Tryz.prog 22 #[s, s'] w (EqRet (eqv ks ks') w) := by
  intro d
  induction d with
  | zero =>
    intro d' s s' ks ks' w h h'
    obtain ⟨rfl, a, cap, rfl, _⟩ := h
    have hl' := h'.len
    obtain ⟨a', cap', rfl, _⟩ := h'.form
    clear h'
    by_cases hn : ks' = []
    · subst hn
      rw [eqv_true rfl]
      go_enter Tryz.func22, Tryz.ntmps22
      go_wp2
      go_loopw [5] (fun i wr => i = .int .i64 0 ∧ wr = w) (fun i _ => 0)
      case atStart => exact ⟨rfl, rfl⟩
      case round =>
        obtain ⟨rfl, rfl⟩ := hrel
        go_wp2
        go_ret
        exact ⟨rfl, Below.refl _ _⟩
    · rw [eqv_false (Ne.symm hn)]
      have hp : 0 < ks'.length := List.length_pos_iff.2 hn
      have hn' : ((0 : Int) != (ks'.length : Int)) = true := by simp; omega
      have hn'' : ¬ ks'.length = 0 := by omega
      go_enter Tryz.func22, Tryz.ntmps22
      go_wp2
      go_ret
      exact ⟨rfl, Below.refl _ _⟩
  | succ d ih =>
    intro d' s s' ks ks' w h h'
    have hl := h.len
    have hl' := h'.len
    by_cases hn : ks.length = ks'.length
    case neg =>
      rw [eqv_false (fun e => hn (by rw [e]))]
      obtain ⟨a, cap, rfl, _⟩ := h.form
      obtain ⟨a', cap', rfl, _⟩ := h'.form
      have hn' : ((ks.length : Int) != (ks'.length : Int)) = true := by simp; omega
      clear h h' ih
      go_enter Tryz.func22, Tryz.ntmps22
      go_wp2
      go_ret
      exact ⟨rfl, Below.refl _ _⟩
    by_cases h0 : ks = []
    · subst h0
      obtain rfl : ks' = [] := List.length_eq_zero_iff.1 hn.symm
      obtain ⟨a, cap, rfl, _⟩ := h.form
      obtain ⟨a', cap', rfl, _⟩ := h'.form
      rw [eqv_true rfl]
      clear h h' ih
      go_enter Tryz.func22, Tryz.ntmps22
      go_wp2
      go_loopw [5] (fun i wr => i = .int .i64 0 ∧ wr = w) (fun i _ => 0)
      case atStart => exact ⟨rfl, rfl⟩
      case round =>
        obtain ⟨rfl, rfl⟩ := hrel
        go_wp2
        go_ret
        exact ⟨rfl, Below.refl _ _⟩
    have hp : 0 < ks.length := List.length_pos_iff.2 h0
    rcases d' with _ | d'
    · obtain ⟨rfl, _⟩ := h'
      simp at hn
      exact absurd hn h0
    have IH := Lib.hid (eqTerm_of (d := d) (d' := d') (ih d'))
    obtain ⟨a, cap, S, rfl, hr, _, hk⟩ := h
    obtain ⟨a', cap', S', rfl, hr', _, hk'⟩ := h'
    rw [← hn] at hr' hk'
    have HK := Lib.hid (And.intro hk hk')
    have D : Hid (∀ i, i < ks.length → (ks.getD i tz ≠ ks'.getD i tz → eqv ks ks' = false)) := fun i _ h => eqv_false (list_ne_at tz h)
    have E : Hid ((∀ i, i < ks.length → ks.getD i tz = ks'.getD i tz) → eqv ks ks' = true) := fun h => eqv_true (list_eq_of tz hn h)
    rw [← hn]
    generalize eqv ks ks' = z at *
    have B0 := Below.refl w.heap.size w
    clear hn hl' h0 ih hk hk'
    go_enter Tryz.func22, Tryz.ntmps22
    go_wp2
    go_loopw [5] (fun i wr => ∃ k : Nat, k ≤ ks.length ∧ i = .int .i64 k ∧ Hid (∀ i, i < k → ks.getD i tz = ks'.getD i tz) ∧ Below w.heap.size w wr) (fun i _ => ks.length - (intOf i).toNat)
    case atStart => exact ⟨0, Nat.zero_le _, rfl, fun i hi => absurd hi (Nat.not_lt_zero _), B0⟩
    case round =>
      obtain ⟨k, hk, rfl, hsame, B⟩ := hrel
      clear B0
      by_cases hlt : k < ks.length
      · obtain ⟨b, off, rfl, g0, c0, c1, c2, c3, c4⟩ := (hr.below B).five hlt
        obtain ⟨b', off', rfl, g0', c0', c1', c2', c3', c4'⟩ := (hr'.below B).five hlt
        have h1 := (HK.out.1 k hlt).below B
        have h1' := (HK.out.2 k hlt).below B
        obtain ⟨sa, sc, es, _⟩ := h1.form
        obtain ⟨sa', sc', es', _⟩ := h1'.form
        rw [es] at c4 h1
        rw [es'] at c4' h1'
        have SM : Hid (ks.getD k tz = ks'.getD k tz → ∀ i, i < k + 1 → ks.getD i tz = ks'.getD i tz) := fun h i hi => by
          rcases Nat.lt_or_ge i k with h1 | h1
          · exact hsame.out i h1
          · rw [show i = k by omega]; exact h
        have D2 : Hid (ks.getD k tz ≠ ks'.getD k tz → z = false) := D.out k hlt
        have HH := Lib.hid (And.intro h1 h1')
        clear h1 h1' es es' hsame D E hr hr'
        generalize ks.getD k tz = x at *
        generalize ks'.getD k tz = y at *
        have C1 : ∀ w', Below wr.heap.size wr w' → Calls Tryz.prog 11 #[.agg #[.int .i64 x.op, .int .i64 x.a, .int .i64 x.b, .string x.nm, .slice sa x.ks.length sc], .agg #[.int .i64 y.op, .int .i64 y.a, .int .i64 y.b, .string y.nm, .slice sa' y.ks.length sc']] w' (EqRet (eqv x y) w') := fun w' hb => by
          have := IH.out x.op x.a x.b x.nm _ x.ks y.op y.a y.b y.nm _ y.ks w' (HH.out.1.below hb) (HH.out.2.below hb)
          rwa [node_eta, node_eta] at this
        have hk0 : (0 : Int) ≤ (k : Int) := by omega
        have hk1 : (k : Int) < (ks.length : Int) := by omega
        have sS := And.intro (five_drew (And.intro c0 (And.intro c1 (And.intro c2 (And.intro c3 c4))))) (five_drew (And.intro c0' (And.intro c1' (And.intro c2' (And.intro c3' c4')))))
        by_cases hxy : x = y
        · rw [eqv_true hxy] at C1
          have S2 : Hid (∀ i, i < k + 1 → ks.getD i tz = ks'.getD i tz) := SM.out hxy
          have C := Lib.hid C1
          clear SM D2 C1 hxy HH IH HK
          go_wp2_with fail
          have hbb := Below.refl wr.heap.size wr
          replace hbb := hbb.drew
          replace B := B.drew
          first
            | (go_region_held3 (fun wx : World => (wx.cell? ⟨b, off + k * 5, none⟩ = some (.int .i64 x.op) ∧ wx.cell? ⟨b, off + k * 5 + 1, none⟩ = some (.int .i64 x.a) ∧ wx.cell? ⟨b, off + k * 5 + 2, none⟩ = some (.int .i64 x.b) ∧ wx.cell? ⟨b, off + k * 5 + 3, none⟩ = some (.string x.nm) ∧ wx.cell? ⟨b, off + k * 5 + 4, none⟩ = some (.slice sa x.ks.length sc)) ∧ (wx.cell? ⟨b', off' + k * 5, none⟩ = some (.int .i64 y.op) ∧ wx.cell? ⟨b', off' + k * 5 + 1, none⟩ = some (.int .i64 y.a) ∧ wx.cell? ⟨b', off' + k * 5 + 2, none⟩ = some (.int .i64 y.b) ∧ wx.cell? ⟨b', off' + k * 5 + 3, none⟩ = some (.string y.nm) ∧ wx.cell? ⟨b', off' + k * 5 + 4, none⟩ = some (.slice sa' y.ks.length sc'))) (first | (with_reducible assumption)) (first | (go_at_call 11; (with_reducible refine (C.out _ hbb).mono ?_); rintro e w1 ⟨rfl, hb⟩; replace B := below_two B hb; replace sS := And.intro (five_keep hb g0 sS.1) (five_keep hb g0' sS.2); clear hb)))
            | fail
          go_wp2_with fail
          exact ⟨⟨k + 1, by omega, by go_num, S2, B⟩, by simp [intOf]; omega⟩
        · have hz := D2.out hxy
          subst hz
          rw [eqv_false hxy] at C1
          have C := Lib.hid C1
          clear SM D2 C1 hxy HH IH HK
          go_wp2_with fail
          have hbb := Below.refl wr.heap.size wr
          replace hbb := hbb.drew
          replace B := B.drew
          first
            | (go_region_held3 (fun wx : World => (wx.cell? ⟨b, off + k * 5, none⟩ = some (.int .i64 x.op) ∧ wx.cell? ⟨b, off + k * 5 + 1, none⟩ = some (.int .i64 x.a) ∧ wx.cell? ⟨b, off + k * 5 + 2, none⟩ = some (.int .i64 x.b) ∧ wx.cell? ⟨b, off + k * 5 + 3, none⟩ = some (.string x.nm) ∧ wx.cell? ⟨b, off + k * 5 + 4, none⟩ = some (.slice sa x.ks.length sc)) ∧ (wx.cell? ⟨b', off' + k * 5, none⟩ = some (.int .i64 y.op) ∧ wx.cell? ⟨b', off' + k * 5 + 1, none⟩ = some (.int .i64 y.a) ∧ wx.cell? ⟨b', off' + k * 5 + 2, none⟩ = some (.int .i64 y.b) ∧ wx.cell? ⟨b', off' + k * 5 + 3, none⟩ = some (.string y.nm) ∧ wx.cell? ⟨b', off' + k * 5 + 4, none⟩ = some (.slice sa' y.ks.length sc'))) (first | (with_reducible assumption)) (first | (go_at_call 11; (with_reducible refine (C.out _ hbb).mono ?_); rintro e w1 ⟨rfl, hb⟩; replace B := below_two B hb; replace sS := And.intro (five_keep hb g0 sS.1) (five_keep hb g0' sS.2); clear hb)))
            | fail
          go_wp2_with fail
          go_ret
          exact ⟨rfl, B⟩
      · obtain rfl : k = ks.length := by omega
        have hz := E.out hsame.out
        subst hz
        clear D E hsame hr hr' HK IH
        go_wp2_with fail
        go_ret
        exact ⟨rfl, B⟩
end Go.Proofs.YtfkanemjedndgaaGreatDoor
