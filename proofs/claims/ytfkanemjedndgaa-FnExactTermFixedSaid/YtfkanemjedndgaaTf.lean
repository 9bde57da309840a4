/- TermFixed of the program and of the reference. The conditions stand in each statement. -/
import Derived.Test.YtfkanemjedndgaaTe
import Derived.Test.YtfkanemjedndgaaTv
import Derived.Test.YtfkanemjedndgaaTo
namespace Go.Proofs.Ytfkanemjedndgaa
open Go.RowKit

def nmz : ByteArray := ⟨#[]⟩
def ttT : Tm := .node 24 0 0 ⟨#[]⟩ []
def ffT : Tm := .node 25 0 0 ⟨#[]⟩ [ttT]
/-- what a term is written to be -/
noncomputable def fixT (o a b : Int) (nm : ByteArray) (ks : List Tm) : Int × Bool :=
  if eqv (Tm.node o a b nm ks) ttT = true then (1, true) else if eqv (Tm.node o a b nm ks) ffT = true then (0, true)
  else if o = 20 ∧ ks = [] ∧ nm = ⟨#[]⟩ ∧ vokB a b = true then (b, true) else (0, false)
def FixRet (z : Int × Bool) (w : World) (e : Ending) (w' : World) : Prop := e = .returned (.tuple #[.int .i64 z.1, .bool z.2]) ∧ Below w.heap.size w w'
theorem sin_nil (w : World) : SIn 0 w (.slice none 0 0) [] := ⟨rfl, none, 0, rfl, Nat.zero_le _⟩
/-- one kid that is true, in a block of its own -/
theorem sin_tt (w : World) : SIn 1 (w.alloc (.cells #[.int .i64 24, .int .i64 0, .int .i64 0, .string ⟨#[]⟩, .slice none 0 0] 29)) (.slice (some ⟨w.heap.size, 0, none⟩) 1 1) [ttT] := by
  refine ⟨_, _, fun _ => .slice none 0 0, rfl, ⟨Nat.le_refl _, by simp [maxLen], .inr ⟨_, 0, rfl, by simp, fun i hi j hj => ?_⟩⟩, fun i hi => ?_, fun i hi => ?_⟩
  · obtain rfl : i = 0 := by simpa using hi
    rw [World.cell?_alloc_new]
    match j, hj with
    | 0, _ => rfl
    | 1, _ => rfl
    | 2, _ => rfl
    | 3, _ => rfl
    | 4, _ => rfl
  · obtain rfl : i = 0 := by simpa using hi
    exact Nat.zero_le _
  · obtain rfl : i = 0 := by simpa using hi
    exact ⟨rfl, none, 0, rfl, Nat.zero_le _⟩
def FalseRet (w : World) (e : Ending) (w' : World) : Prop := ∃ g, e = .returned (.agg #[.int .i64 25, .int .i64 0, .int .i64 0, .string ⟨#[]⟩, .slice (some ⟨g, 0, none⟩) 1 1]) ∧ SIn 1 w' (.slice (some ⟨g, 0, none⟩) 1 1) [ttT] ∧ Below w.heap.size w w'

theorem name_some {a : ByteArray} (h : ¬ a = ⟨#[]⟩) : a.toList.isEmpty = false := by
  have : a.toList ≠ [] := fun e => h (Go.WideShapes.bytes_inj (by rw [← ByteArray.toList_eq, e]))
  cases hl : a.toList with
  | nil => exact absurd hl this
  | cons x r => rfl
theorem l3False_any (w : World) : Calls Try.prog 23 #[] w (FalseRet w) := by
  have H := sin_tt (w.alloc (.cells #[.int .i64 25, .int .i64 0, .int .i64 0, .string ⟨#[]⟩, .slice (some ⟨w.heap.size + 1, 0, none⟩) 1 1] 29))
  have hs : (w.alloc (.cells #[.int .i64 25, .int .i64 0, .int .i64 0, .string ⟨#[]⟩, .slice (some ⟨w.heap.size + 1, 0, none⟩) 1 1] 29)).heap.size = w.heap.size + 1 := by simp
  rw [hs] at H
  go_enter Try.func23, Try.ntmps23
  go_wp2
  exact bodyPost_ret (v := .agg #[.int .i64 25, .int .i64 0, .int .i64 0, .string ⟨#[]⟩, .slice (some ⟨w.heap.size + 1, 0, none⟩) 1 1]) (by simp [results, Try.results23, go_sem]) rfl ⟨_, rfl, H, below_res (Below.refl _ _)⟩

theorem falseTerm_any (w : World) : Calls Try.prog 26 #[] w (FalseRet w) := by
  have H := sin_tt (w.alloc (.cells #[.int .i64 25, .int .i64 0, .int .i64 0, .string ⟨#[]⟩, .slice (some ⟨w.heap.size + 1, 0, none⟩) 1 1] 29))
  have hs : (w.alloc (.cells #[.int .i64 25, .int .i64 0, .int .i64 0, .string ⟨#[]⟩, .slice (some ⟨w.heap.size + 1, 0, none⟩) 1 1] 29)).heap.size = w.heap.size + 1 := by simp
  rw [hs] at H
  go_enter Try.func26, Try.ntmps26
  go_wp2
  exact bodyPost_ret (v := .agg #[.int .i64 25, .int .i64 0, .int .i64 0, .string ⟨#[]⟩, .slice (some ⟨w.heap.size + 1, 0, none⟩) 1 1]) (by simp [results, Try.results26, go_sem]) rfl ⟨_, rfl, H, below_res (Below.refl _ _)⟩

set_option linter.unusedVariables false in
set_option maxHeartbeats 4000000 in
theorem termFixed_spec (d : Nat) (o a b : Int) (nm : ByteArray) (s : Value) (ks : List Tm) (w : World) (h : SIn d w s ks) :
    Calls Try.prog 14 #[.agg #[.int .i64 o, .int .i64 a, .int .i64 b, .string nm, s]] w (FixRet (fixT o a b nm ks) w) := by
  have hl := h.len
  obtain ⟨sa, sc, es, _⟩ := h.form
  subst es
  have hb := below_self_alloc w (.cells #[.int .i64 o, .int .i64 a, .int .i64 b, .string nm, .slice sa ks.length sc] 29)
  have A := blk5_new w (.int .i64 o) (.int .i64 a) (.int .i64 b) (.string nm) (.slice sa ks.length sc) 29
  replace h := h.below hb
  have ST : Hid (∀ w', SIn d w' (.slice sa ks.length sc) ks → Calls Try.prog 8 #[.agg #[.int .i64 o, .int .i64 a, .int .i64 b, .string nm, .slice sa ks.length sc], .agg #[.int .i64 24, .int .i64 0, .int .i64 0, .string ⟨#[]⟩, .slice none 0 0]] w' (EqRet (eqv (Tm.node o a b nm ks) ttT) w')) := fun w' h => termSame_spec d 0 o a b nm _ ks 24 0 0 ⟨#[]⟩ _ [] w' h (sin_nil w')
  have SF : Hid (∀ w' g, SIn d w' (.slice sa ks.length sc) ks → SIn 1 w' (.slice (some ⟨g, 0, none⟩) 1 1) [ttT] → Calls Try.prog 8 #[.agg #[.int .i64 o, .int .i64 a, .int .i64 b, .string nm, .slice sa ks.length sc], .agg #[.int .i64 25, .int .i64 0, .int .i64 0, .string ⟨#[]⟩, .slice (some ⟨g, 0, none⟩) 1 1]] w' (EqRet (eqv (Tm.node o a b nm ks) ffT) w')) := fun w' g h hf => termSame_spec d 1 o a b nm _ ks 25 0 0 ⟨#[]⟩ _ [ttT] w' h hf
  obtain ⟨z, hz⟩ : ∃ z, z = fixT o a b nm ks := ⟨_, rfl⟩
  rw [← hz]
  unfold fixT at hz
  have HZ := Lib.hid hz
  clear hz
  cases hT : eqv (Tm.node o a b nm ks) ttT
  · rw [hT] at ST
    rw [hT, if_neg (show ¬ (false = true) by simp)] at HZ
    go_enter Try.func14, Try.ntmps14
    go_wp2_with fail
    refine (ST.out _ h).mono ?_; rintro e w1 ⟨rfl, hb1⟩
    replace A := A.keep hb1
    replace h := h.below hb1
    have K := box2_below hb1
    clear hb1 ST hT hb
    obtain ⟨A0, A1, A2, A3, A4, A5⟩ := A.cells
    go_wp2_with fail
    clear A0 A1 A2 A3 A4 A5
    cases hF : eqv (Tm.node o a b nm ks) ffT
    · rw [hF] at SF
      rw [hF, if_neg (show ¬ (false = true) by simp)] at HZ
      clear hF
      replace A := A.drew
      replace h := h.drew
      replace K := K.drew
      have sS := And.intro A.cells.1 (And.intro A.cells.2.1 (And.intro A.cells.2.2.1 (And.intro A.cells.2.2.2.1 A.cells.2.2.2.2.1)))
      first
        | (go_region_held3 (fun wx : World => wx.cell? ⟨w.heap.size, 0, none⟩ = some (.int .i64 o) ∧ wx.cell? ⟨w.heap.size, 1, none⟩ = some (.int .i64 a) ∧ wx.cell? ⟨w.heap.size, 2, none⟩ = some (.int .i64 b) ∧ wx.cell? ⟨w.heap.size, 3, none⟩ = some (.string nm) ∧ wx.cell? ⟨w.heap.size, 4, none⟩ = some (.slice sa ks.length sc)) (first | (with_reducible assumption)) (first | (go_at_call 23; (with_reducible refine (l3False_any _).mono ?_); rintro e w8 ⟨gf, rfl, hf, hb8⟩; replace A := A.keep hb8; replace h := h.below hb8; replace K := below_two K hb8; clear hb8; replace sS := And.intro A.cells.1 (And.intro A.cells.2.1 (And.intro A.cells.2.2.1 (And.intro A.cells.2.2.2.1 A.cells.2.2.2.2.1)))) | (go_at_call 8; (with_reducible refine (SF.out _ gf h hf).mono ?_); rintro e w9 ⟨rfl, hb9⟩; replace A := A.keep hb9; replace h := h.below hb9; replace K := below_two K hb9; clear hb9 hf; replace sS := And.intro A.cells.1 (And.intro A.cells.2.1 (And.intro A.cells.2.2.1 (And.intro A.cells.2.2.2.1 A.cells.2.2.2.2.1))))))
        | fail
      clear sS
      obtain ⟨A0, A1, A2, A3, A4, A5⟩ := A.cells
      by_cases h20 : o = 20
      · subst h20
        by_cases hk : ks = []
        · subst hk
          by_cases hn : nm = ⟨#[]⟩
          · subst hn
            cases hv : vokB a b
            · rw [if_neg (fun h => by have := h.2.2.2; rw [hv] at this; cases this)] at HZ
              have e := HZ.out
              subst e
              clear HZ
              go_wp2_with fail
              refine (vecOk_spec a b _).mono ?_; rintro e w3 ⟨rfl, hb3⟩
              rw [hv]
              replace K := below_two K hb3
              go_wp2_with fail
              exact bodyPost_ret (v := .tuple #[.int .i64 0, .bool false]) (by simp [results, Try.results14, go_sem]) rfl ⟨rfl, K⟩
            · rw [if_pos ⟨rfl, rfl, rfl, hv⟩] at HZ
              have e := HZ.out
              subst e
              clear HZ
              go_wp2_with fail
              refine (vecOk_spec a b _).mono ?_; rintro e w3 ⟨rfl, hb3⟩
              rw [hv]
              replace K := below_two K hb3
              replace A := A.keep hb3
              clear A0 A1 A2 A3 A4 A5
              obtain ⟨A0, A1, A2, A3, A4, A5⟩ := A.cells
              go_wp2_with fail
              exact bodyPost_ret (v := .tuple #[.int .i64 b, .bool true]) (by simp [results, Try.results14, go_sem]) rfl ⟨rfl, K⟩
          · rw [if_neg (fun h => hn h.2.2.1)] at HZ
            have e := HZ.out
            subst e
            clear HZ
            have hn2 := name_some hn
            clear hn
            go_wp2_with fail
            exact bodyPost_ret (v := .tuple #[.int .i64 0, .bool false]) (by simp [results, Try.results14, go_sem]) rfl ⟨rfl, K⟩
        · rw [if_neg (fun h => hk h.2.1)] at HZ
          have e := HZ.out
          subst e
          clear HZ
          have hk2 : ((ks.length : Int) == 0) = false := by simpa using hk
          go_wp2_with fail
          exact bodyPost_ret (v := .tuple #[.int .i64 0, .bool false]) (by simp [results, Try.results14, go_sem]) rfl ⟨rfl, K⟩
      · rw [if_neg (fun h => h20 h.1)] at HZ
        have e := HZ.out
        subst e
        clear HZ
        have h20' : (o == 20) = false := by simpa using h20
        go_wp2_with fail
        exact bodyPost_ret (v := .tuple #[.int .i64 0, .bool false]) (by simp [results, Try.results14, go_sem]) rfl ⟨rfl, K⟩
    · rw [hF] at SF
      rw [hF, if_pos (show true = true from rfl)] at HZ
      have e := HZ.out
      subst e
      clear hF HZ
      replace A := A.drew
      replace h := h.drew
      replace K := K.drew
      have sS := And.intro A.cells.1 (And.intro A.cells.2.1 (And.intro A.cells.2.2.1 (And.intro A.cells.2.2.2.1 A.cells.2.2.2.2.1)))
      first
        | (go_region_held3 (fun wx : World => wx.cell? ⟨w.heap.size, 0, none⟩ = some (.int .i64 o) ∧ wx.cell? ⟨w.heap.size, 1, none⟩ = some (.int .i64 a) ∧ wx.cell? ⟨w.heap.size, 2, none⟩ = some (.int .i64 b) ∧ wx.cell? ⟨w.heap.size, 3, none⟩ = some (.string nm) ∧ wx.cell? ⟨w.heap.size, 4, none⟩ = some (.slice sa ks.length sc)) (first | (with_reducible assumption)) (first | (go_at_call 23; (with_reducible refine (l3False_any _).mono ?_); rintro e w8 ⟨gf, rfl, hf, hb8⟩; replace A := A.keep hb8; replace h := h.below hb8; replace K := below_two K hb8; clear hb8; replace sS := And.intro A.cells.1 (And.intro A.cells.2.1 (And.intro A.cells.2.2.1 (And.intro A.cells.2.2.2.1 A.cells.2.2.2.2.1)))) | (go_at_call 8; (with_reducible refine (SF.out _ gf h hf).mono ?_); rintro e w9 ⟨rfl, hb9⟩; replace A := A.keep hb9; replace h := h.below hb9; replace K := below_two K hb9; clear hb9 hf; replace sS := And.intro A.cells.1 (And.intro A.cells.2.1 (And.intro A.cells.2.2.1 (And.intro A.cells.2.2.2.1 A.cells.2.2.2.2.1))))))
        | fail
      clear sS
      go_wp2_with fail
      exact bodyPost_ret (v := .tuple #[.int .i64 0, .bool true]) (by simp [results, Try.results14, go_sem]) rfl ⟨rfl, K⟩
  · rw [hT] at ST
    rw [hT, if_pos (show true = true from rfl)] at HZ
    have e := HZ.out
    subst e
    clear HZ
    go_enter Try.func14, Try.ntmps14
    go_wp2_with fail
    refine (ST.out _ h).mono ?_; rintro e w1 ⟨rfl, hb1⟩
    have K := box2_below hb1
    go_wp2_with fail
    exact bodyPost_ret (v := .tuple #[.int .i64 1, .bool true]) (by simp [results, Try.results14, go_sem]) rfl ⟨rfl, K⟩
set_option linter.unusedVariables false in
set_option maxHeartbeats 4000000 in
theorem termFixed_impl (d : Nat) (o a b : Int) (nm : ByteArray) (s : Value) (ks : List Tm) (w : World) (h : SIn d w s ks) :
    Calls Try.prog 15 #[.agg #[.int .i64 o, .int .i64 a, .int .i64 b, .string nm, s]] w (FixRet (fixT o a b nm ks) w) := by
  have hl := h.len
  obtain ⟨sa, sc, es, _⟩ := h.form
  subst es
  have hb := below_self_alloc w (.cells #[.int .i64 o, .int .i64 a, .int .i64 b, .string nm, .slice sa ks.length sc] 29)
  have A := blk5_new w (.int .i64 o) (.int .i64 a) (.int .i64 b) (.string nm) (.slice sa ks.length sc) 29
  replace h := h.below hb
  have ST : Hid (∀ w', SIn d w' (.slice sa ks.length sc) ks → Calls Try.prog 10 #[.agg #[.int .i64 o, .int .i64 a, .int .i64 b, .string nm, .slice sa ks.length sc], .agg #[.int .i64 24, .int .i64 0, .int .i64 0, .string ⟨#[]⟩, .slice none 0 0]] w' (EqRet (eqv (Tm.node o a b nm ks) ttT) w')) := fun w' h => termSame_of (equalFunc_any d 0) o a b nm _ ks 24 0 0 ⟨#[]⟩ _ [] w' h (sin_nil w')
  have SF : Hid (∀ w' g, SIn d w' (.slice sa ks.length sc) ks → SIn 1 w' (.slice (some ⟨g, 0, none⟩) 1 1) [ttT] → Calls Try.prog 10 #[.agg #[.int .i64 o, .int .i64 a, .int .i64 b, .string nm, .slice sa ks.length sc], .agg #[.int .i64 25, .int .i64 0, .int .i64 0, .string ⟨#[]⟩, .slice (some ⟨g, 0, none⟩) 1 1]] w' (EqRet (eqv (Tm.node o a b nm ks) ffT) w')) := fun w' g h hf => termSame_of (equalFunc_any d 1) o a b nm _ ks 25 0 0 ⟨#[]⟩ _ [ttT] w' h hf
  obtain ⟨z, hz⟩ : ∃ z, z = fixT o a b nm ks := ⟨_, rfl⟩
  rw [← hz]
  have HZ := Lib.hid hz
  clear hz
  have K := hb
  obtain ⟨A0, A1, A2, A3, A4, A5⟩ := A.cells
  by_cases hn : nm = ⟨#[]⟩
  case neg =>
    have hn2 := name_some hn
    have e := HZ.out
    unfold fixT at e
    rw [eqv_false (show Tm.node o a b nm ks ≠ ttT from fun e => hn (by cases e; rfl)), eqv_false (show Tm.node o a b nm ks ≠ ffT from fun e => hn (by cases e; rfl)), if_neg (by simp), if_neg (by simp), if_neg (fun h => hn h.2.2.1)] at e
    subst e
    clear HZ ST SF hn h
    go_enter Try.func15, Try.ntmps15
    go_wp2_with fail
    exact bodyPost_ret (v := .tuple #[.int .i64 0, .bool false]) (by simp [results, Try.results15, go_sem]) rfl ⟨rfl, K⟩
  subst hn
  by_cases hvec : o = 20 ∧ ks = [] ∧ vokB a b = true
  · obtain ⟨rfl, rfl, hv⟩ := hvec
    have e := HZ.out
    unfold fixT at e
    rw [eqv_false (show Tm.node 20 a b ⟨#[]⟩ [] ≠ ttT from fun e => by cases e), eqv_false (show Tm.node 20 a b ⟨#[]⟩ [] ≠ ffT from fun e => by cases e), if_neg (by simp), if_neg (by simp), if_pos ⟨rfl, rfl, rfl, hv⟩] at e
    subst e
    clear HZ ST SF h
    go_enter Try.func15, Try.ntmps15
    go_wp2_with fail
    refine (vecOk_impl a b _).mono ?_; rintro e w3 ⟨rfl, hb3⟩
    rw [hv]
    replace K := below_two K hb3
    replace A := A.keep hb3
    clear A0 A1 A2 A3 A4 A5
    obtain ⟨A0, A1, A2, A3, A4, A5⟩ := A.cells
    go_wp2_with fail
    exact bodyPost_ret (v := .tuple #[.int .i64 b, .bool true]) (by simp [results, Try.results15, go_sem]) rfl ⟨rfl, K⟩
  have HZ2 : Hid (z = if eqv (Tm.node o a b ⟨#[]⟩ ks) ttT = true then (1, true) else if eqv (Tm.node o a b ⟨#[]⟩ ks) ffT = true then (0, true) else (0, false)) := by
    have e := HZ.out
    unfold fixT at e
    rw [if_neg (show ¬ (o = 20 ∧ ks = [] ∧ (⟨#[]⟩ : ByteArray) = ⟨#[]⟩ ∧ vokB a b = true) from fun h => hvec ⟨h.1, h.2.1, h.2.2.2⟩)] at e
    exact e
  clear HZ
  have HV := Lib.hid hvec
  clear hvec
  by_cases h20 : o = 20
  · subst h20
    have hF : eqv (Tm.node 20 a b ⟨#[]⟩ ks) ffT = false := eqv_false (fun e => by cases e)
    have hT : eqv (Tm.node 20 a b ⟨#[]⟩ ks) ttT = false := eqv_false (fun e => by cases e)
    rw [hT, hF, if_neg (by simp), if_neg (by simp)] at HZ2
    have e := HZ2.out
    subst e
    rw [hT] at ST
    clear HZ2 hF hT SF
    by_cases hk : ks = []
    · subst hk
      have hv : vokB a b = false := by
        cases hv : vokB a b
        · rfl
        · exact absurd ⟨rfl, rfl, hv⟩ HV.out
      go_enter Try.func15, Try.ntmps15
      go_wp2_with fail
      refine (vecOk_impl a b _).mono ?_; rintro e w3 ⟨rfl, hb3⟩
      rw [hv]
      replace K := below_two K hb3
      replace A := A.keep hb3
      replace h := h.below hb3
      clear A0 A1 A2 A3 A4 A5
      obtain ⟨A0, A1, A2, A3, A4, A5⟩ := A.cells
      go_wp2_with fail
      refine (ST.out _ h).mono ?_; rintro e w4 ⟨rfl, hb4⟩
      replace A := A.keep hb4
      replace K := below_two K hb4
      clear A0 A1 A2 A3 A4 A5
      obtain ⟨A0, A1, A2, A3, A4, A5⟩ := A.cells
      go_wp2_with fail
      obtain ⟨x, hx⟩ : ∃ x, x = (20 : Int) := ⟨_, rfl⟩
      have hx25 : (x == 25) = false := by subst hx; rfl
      rw [← hx] at A0
      clear hx
      go_quiet (fail)
      rename_i nq
      replace K := below_drewN K nq
      go_wp2_with fail
      exact bodyPost_ret (v := .tuple #[.int .i64 0, .bool false]) (by simp [results, Try.results15, go_sem]) rfl ⟨rfl, K⟩
    · have hk2 : ((ks.length : Int) == 0) = false := by simpa using hk
      go_enter Try.func15, Try.ntmps15
      go_wp2_with fail
      refine (ST.out _ h).mono ?_; rintro e w4 ⟨rfl, hb4⟩
      replace A := A.keep hb4
      replace K := below_two K hb4
      clear A0 A1 A2 A3 A4 A5
      obtain ⟨A0, A1, A2, A3, A4, A5⟩ := A.cells
      go_wp2_with fail
      obtain ⟨x, hx⟩ : ∃ x, x = (20 : Int) := ⟨_, rfl⟩
      have hx25 : (x == 25) = false := by subst hx; rfl
      rw [← hx] at A0
      clear hx
      go_quiet (fail)
      rename_i nq
      replace K := below_drewN K nq
      go_wp2_with fail
      exact bodyPost_ret (v := .tuple #[.int .i64 0, .bool false]) (by simp [results, Try.results15, go_sem]) rfl ⟨rfl, K⟩
  · have h20' : (o == 20) = false := by simpa using h20
    cases hT : eqv (Tm.node o a b ⟨#[]⟩ ks) ttT
    · rw [hT] at ST
      rw [hT, if_neg (show ¬ (false = true) by simp)] at HZ2
      go_enter Try.func15, Try.ntmps15
      go_wp2_with fail
      refine (ST.out _ h).mono ?_; rintro e w4 ⟨rfl, hb4⟩
      replace A := A.keep hb4
      replace h := h.below hb4
      replace K := below_two K hb4
      clear hb4 ST hT A0 A1 A2 A3 A4 A5
      obtain ⟨A0, A1, A2, A3, A4, A5⟩ := A.cells
      go_wp2_with fail
      by_cases h25 : o = 25
      · subst h25
        cases hF : eqv (Tm.node 25 a b ⟨#[]⟩ ks) ffT
        · rw [hF] at SF
          rw [hF, if_neg (show ¬ (false = true) by simp)] at HZ2
          have e := HZ2.out
          subst e
          clear HZ2 hF
          replace A := A.drew
          replace h := h.drew
          replace K := K.drew
          clear A0 A1 A2 A3 A4 A5
          have sS := And.intro A.cells.1 (And.intro A.cells.2.1 (And.intro A.cells.2.2.1 (And.intro A.cells.2.2.2.1 A.cells.2.2.2.2.1)))
          first
            | (go_region_held3 (fun wx : World => wx.cell? ⟨w.heap.size, 0, none⟩ = some (.int .i64 25) ∧ wx.cell? ⟨w.heap.size, 1, none⟩ = some (.int .i64 a) ∧ wx.cell? ⟨w.heap.size, 2, none⟩ = some (.int .i64 b) ∧ wx.cell? ⟨w.heap.size, 3, none⟩ = some (.string ⟨#[]⟩) ∧ wx.cell? ⟨w.heap.size, 4, none⟩ = some (.slice sa ks.length sc)) (first | (with_reducible assumption)) (first | (go_at_call 26; (with_reducible refine (falseTerm_any _).mono ?_); rintro e w8 ⟨gf, rfl, hf, hb8⟩; replace A := A.keep hb8; replace h := h.below hb8; replace K := below_two K hb8; clear hb8; replace sS := And.intro A.cells.1 (And.intro A.cells.2.1 (And.intro A.cells.2.2.1 (And.intro A.cells.2.2.2.1 A.cells.2.2.2.2.1)))) | (go_at_call 10; (with_reducible refine (SF.out _ gf h hf).mono ?_); rintro e w9 ⟨rfl, hb9⟩; replace A := A.keep hb9; replace h := h.below hb9; replace K := below_two K hb9; clear hb9 hf; replace sS := And.intro A.cells.1 (And.intro A.cells.2.1 (And.intro A.cells.2.2.1 (And.intro A.cells.2.2.2.1 A.cells.2.2.2.2.1))))))
            | fail
          clear sS
          go_wp2_with fail
          exact bodyPost_ret (v := .tuple #[.int .i64 0, .bool false]) (by simp [results, Try.results15, go_sem]) rfl ⟨rfl, K⟩
        · rw [hF] at SF
          rw [hF, if_pos (show true = true from rfl)] at HZ2
          have e := HZ2.out
          subst e
          clear HZ2 hF
          replace A := A.drew
          replace h := h.drew
          replace K := K.drew
          clear A0 A1 A2 A3 A4 A5
          have sS := And.intro A.cells.1 (And.intro A.cells.2.1 (And.intro A.cells.2.2.1 (And.intro A.cells.2.2.2.1 A.cells.2.2.2.2.1)))
          first
            | (go_region_held3 (fun wx : World => wx.cell? ⟨w.heap.size, 0, none⟩ = some (.int .i64 25) ∧ wx.cell? ⟨w.heap.size, 1, none⟩ = some (.int .i64 a) ∧ wx.cell? ⟨w.heap.size, 2, none⟩ = some (.int .i64 b) ∧ wx.cell? ⟨w.heap.size, 3, none⟩ = some (.string ⟨#[]⟩) ∧ wx.cell? ⟨w.heap.size, 4, none⟩ = some (.slice sa ks.length sc)) (first | (with_reducible assumption)) (first | (go_at_call 26; (with_reducible refine (falseTerm_any _).mono ?_); rintro e w8 ⟨gf, rfl, hf, hb8⟩; replace A := A.keep hb8; replace h := h.below hb8; replace K := below_two K hb8; clear hb8; replace sS := And.intro A.cells.1 (And.intro A.cells.2.1 (And.intro A.cells.2.2.1 (And.intro A.cells.2.2.2.1 A.cells.2.2.2.2.1)))) | (go_at_call 10; (with_reducible refine (SF.out _ gf h hf).mono ?_); rintro e w9 ⟨rfl, hb9⟩; replace A := A.keep hb9; replace h := h.below hb9; replace K := below_two K hb9; clear hb9 hf; replace sS := And.intro A.cells.1 (And.intro A.cells.2.1 (And.intro A.cells.2.2.1 (And.intro A.cells.2.2.2.1 A.cells.2.2.2.2.1))))))
            | fail
          clear sS
          go_wp2_with fail
          exact bodyPost_ret (v := .tuple #[.int .i64 0, .bool true]) (by simp [results, Try.results15, go_sem]) rfl ⟨rfl, K⟩
      · have hF : eqv (Tm.node o a b ⟨#[]⟩ ks) ffT = false := eqv_false (fun e => h25 (by cases e; rfl))
        rw [hF, if_neg (show ¬ (false = true) by simp)] at HZ2
        have e := HZ2.out
        subst e
        have h25' : (o == 25) = false := by simpa using h25
        clear HZ2 SF
        go_quiet (fail)
        rename_i nq
        replace K := below_drewN K nq
        go_wp2_with fail
        exact bodyPost_ret (v := .tuple #[.int .i64 0, .bool false]) (by simp [results, Try.results15, go_sem]) rfl ⟨rfl, K⟩
    · rw [hT] at ST
      rw [hT, if_pos (show true = true from rfl)] at HZ2
      have e := HZ2.out
      subst e
      clear HZ2
      go_enter Try.func15, Try.ntmps15
      go_wp2_with fail
      refine (ST.out _ h).mono ?_; rintro e w4 ⟨rfl, hb4⟩
      replace K := below_two K hb4
      go_wp2_with fail
      exact bodyPost_ret (v := .tuple #[.int .i64 1, .bool true]) (by simp [results, Try.results15, go_sem]) rfl ⟨rfl, K⟩
end Go.Proofs.Ytfkanemjedndgaa
