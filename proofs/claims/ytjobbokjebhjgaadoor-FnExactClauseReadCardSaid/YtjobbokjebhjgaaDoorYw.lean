/- Words of a text, as the reference cuts them. The conditions stand in each statement. -/
import Derived.Test.YtjobbokjebhjgaaDoorYn
namespace Go.Proofs.YtjobbokjebhjgaaDoor
open Go.RowKit

def strV (p : List UInt8) : Value := .string ⟨p.toArray⟩
theorem ext_eq (s : ByteArray) (a b : Nat) : s.extract a b = ⟨(seg s.data.toList a b).toArray⟩ := by
  apply ByteArray.ext
  apply Array.toList_inj.1
  rw [ext_list]; rfl
theorem own_none {w : World} {size : Nat} {e : TypeId} : (w.alloc (.cells #[] e)).ownsRow w.heap.size e size (.slice (some ⟨w.heap.size, 0, none⟩) 0 0) 0 [] :=
  ⟨by simp, .inr ⟨w.heap.size, 0, #[], rfl, Nat.le_refl _, heap_alloc_new w _, Nat.le_refl _, Nat.zero_le _, by simp, by simp⟩⟩
theorem own_base {w : World} {b b' size n : Nat} {e : TypeId} {v : Value} {xs : List Value} (h : w.ownsRow b e size v n xs) (hb : b' ≤ b) : w.ownsRow b' e size v n xs := by
  obtain ⟨h1, h2 | ⟨g, cap, cur, h3, h4, h5⟩⟩ := h
  · exact ⟨h1, .inl h2⟩
  · exact ⟨h1, .inr ⟨g, cap, cur, h3, Nat.le_trans hb h4, h5⟩⟩
def CJ (l : List UInt8) (done : List (List UInt8)) (f k : Nat) : Prop := if k ≤ l.length then f ≤ k ∧ cutL [] l = done ++ cutL (seg l f k) (l.drop k) else k ≤ l.length + 1 ∧ cutL [] l = done
theorem CJ_start (l : List UInt8) : CJ l [] 0 0 := by
  unfold CJ; rw [if_pos (Nat.zero_le _), seg_self]; simp
theorem CJ_le {l : List UInt8} {done : List (List UInt8)} {f k : Nat} (h : CJ l done f k) : k ≤ l.length + 1 ∧ (k ≤ l.length → f ≤ k) := by
  unfold CJ at h; split at h
  · exact ⟨by omega, fun _ => h.1⟩
  · exact ⟨h.1, fun h2 => absurd h2 (by assumption)⟩
theorem CJ_last {l : List UInt8} {done : List (List UInt8)} {f : Nat} (h : CJ l done f l.length) : CJ l (done ++ [seg l f l.length]) (l.length + 1) (l.length + 1) := by
  unfold CJ at h ⊢
  rw [if_pos (Nat.le_refl _), List.drop_length] at h
  rw [if_neg (by omega)]
  exact ⟨Nat.le_refl _, h.2⟩
theorem CJ_space {l : List UInt8} {done : List (List UInt8)} {f k : Nat} (h : CJ l done f k) (hk : k < l.length) (h32 : l[k] = 32) : CJ l (done ++ [seg l f k]) (k + 1) (k + 1) := by
  unfold CJ at h ⊢
  rw [if_pos (by omega), drop_here hk, cutL, if_pos h32] at h
  rw [if_pos (by omega), seg_self, h.2]
  exact ⟨Nat.le_refl _, by simp⟩
theorem CJ_skip {l : List UInt8} {done : List (List UInt8)} {f k : Nat} (h : CJ l done f k) (hk : k < l.length) (h32 : l[k] ≠ 32) : CJ l done f (k + 1) := by
  unfold CJ at h ⊢
  rw [if_pos (by omega), drop_here hk, cutL, if_neg h32] at h
  rw [if_pos (by omega), seg_snoc h.1 hk]
  exact ⟨by omega, h.2⟩
theorem CJ_end {l : List UInt8} {done : List (List UInt8)} {f k : Nat} (h : CJ l done f k) (hk : ¬ k ≤ l.length) : cutL [] l = done := by
  unfold CJ at h; rw [if_neg hk] at h; exact h.2
theorem cell_new_one (w : World) (x : Value) (t : TypeId) : ∀ (j : Nat) (u : Value), [x][j]? = some u → (w.alloc (.cells #[x] t)).cell? ((⟨w.heap.size, 0, none⟩ : Addr).add j) = some u := by
  intro j u hj
  match j, hj with
  | 0, hj => simp at hj; subst hj; simp [Addr.add]
theorem one_new_str (p : ByteArray) : ∀ u ∈ [Value.string p], u.oneCell' = true := by
  intro u hu; simp at hu; subst hu; rfl
theorem infoStr : (Tryd.prog.info? 9).map (fun i => (i.zero, i.size, i.bytes)) = some (some (.string ⟨#[]⟩), 1, 16) := by kernel_rfl

set_option maxHeartbeats 8000000 in
theorem l12Cut_any (s : ByteArray) (w : World) (hs : s.size ≤ 1000000) :
    Calls Tryd.prog 24 #[.string s, .int .u8 32] w (NewRow 9 1 (cutL [] s.data.toList).length ((cutL [] s.data.toList).map strV) w) := by
  obtain ⟨i0, hi, hz0, hz1, hz2⟩ := info_parts infoStr
  have hlen : s.data.toList.length = s.size := rfl
  have HL := Lib.hid hlen
  clear hlen
  go_enter Tryd.func24, Tryd.ntmps24
  go_wp2_with fail
  go_loopw [5, 6, 7] (fun o f i wr => ∃ (k a : Nat) (done : List (List UInt8)), i = .int .i64 k ∧ f = .int .i64 a ∧ k ≤ s.size + 1 ∧ done.length ≤ k ∧ (k ≤ s.size → a ≤ k) ∧ Hid (CJ s.data.toList done a k) ∧ wr.ownsRow w.heap.size 9 1 o done.length (done.map strV) ∧ Below w.heap.size w wr) (fun _ _ i _ => s.size + 1 - (intOf i).toNat)
  case atStart => exact ⟨0, 0, [], rfl, rfl, by omega, Nat.le_refl _, fun _ => Nat.le_refl _, CJ_start _, own_none, below_self_alloc _ _⟩
  case round =>
    obtain ⟨k, a, done, rfl, rfl, hk, hdl, hak, hc, own, B⟩ := hrel
    have hB := B.size
    by_cases hlt : k ≤ s.size
    · have hlt2 : (k : Int) ≤ (s.size : Int) := by omega
      have ha := hak hlt
      have ha2 : (a : Int) ≤ (k : Int) := by omega
      clear hak
      by_cases hend : k = s.size
      · subst hend
        have hC2 : Hid (CJ s.data.toList (done ++ [seg s.data.toList a s.size]) (s.size + 1) (s.size + 1)) := CJ_last hc.out
        have hE := Lib.hid (ext_eq s a s.size)
        go_wp2_with (at_builtin; refine wpList_append_own _ rfl _ _ 35 rfl w.heap.size 9 i0 (.string ⟨#[]⟩) 1 16 Tryd.underlying35 hi hz0 hz1 hz2 rfl (by decide) _ _ _ rfl (own.alloc _) ⟨wr.heap.size, 0, none⟩ 1 1 [Value.string (s.extract a s.size)] rfl rfl (cell_new_one _ _ _) (one_new_str _) (by unfold maxLen; omega) (by omega) (by simp; omega) ?_; intro v2 w2 own2 hg2 _; refine Hid.out ?_)
        refine Lib.hid ?_
        have B2 : Below w.heap.size w w2 := (below_step B _).grown hg2 (by simp; omega) (fun k hk => (own.lt k hk).1)
        have own3 : w2.ownsRow w.heap.size 9 1 v2 (done ++ [seg s.data.toList a s.size]).length ((done ++ [seg s.data.toList a s.size]).map strV) := by
          have e1 : done.map strV ++ [Value.string (s.extract a s.size)] = (done ++ [seg s.data.toList a s.size]).map strV := by rw [hE.out, List.map_append]; rfl
          have e2 : done.length + 1 = (done ++ [seg s.data.toList a s.size]).length := by simp
          rw [← e1, ← e2]; exact own2
        clear own own2 hg2 hE hc
        go_wp2_with fail
        exact ⟨⟨s.size + 1, s.size + 1, _, by go_num, by go_num, by omega, by simp <;> omega, fun _ => Nat.le_refl _, hC2, own3, B2⟩, by simp [intOf] <;> omega⟩
      · have hlt3 : k < s.size := by omega
        have hne : ((k : Int) == (s.size : Int)) = false := by rw [beq_eq_false_iff_ne]; omega
        by_cases h32 : (s[k]'hlt3).toNat = 32
        · have h32' : (((s[k]'hlt3).toNat : Int) == 32) = true := by rw [h32]; rfl
          have hC2 : Hid (CJ s.data.toList (done ++ [seg s.data.toList a k]) (k + 1) (k + 1)) := CJ_space hc.out (by rw [HL.out]; exact hlt3) (byte_eq h32)
          have hE := Lib.hid (ext_eq s a k)
          have hk2 : (k : Int) < (s.size : Int) := by omega
          go_wp2_with (at_builtin; refine wpList_append_own _ rfl _ _ 35 rfl w.heap.size 9 i0 (.string ⟨#[]⟩) 1 16 Tryd.underlying35 hi hz0 hz1 hz2 rfl (by decide) _ _ _ rfl (own.alloc _) ⟨wr.heap.size, 0, none⟩ 1 1 [Value.string (s.extract a k)] rfl rfl (cell_new_one _ _ _) (one_new_str _) (by unfold maxLen; omega) (by omega) (by simp; omega) ?_; intro v2 w2 own2 hg2 _; refine Hid.out ?_)
          refine Lib.hid ?_
          have B2 : Below w.heap.size w w2 := (below_step B _).grown hg2 (by simp; omega) (fun k hk => (own.lt k hk).1)
          have own3 : w2.ownsRow w.heap.size 9 1 v2 (done ++ [seg s.data.toList a k]).length ((done ++ [seg s.data.toList a k]).map strV) := by
            have e1 : done.map strV ++ [Value.string (s.extract a k)] = (done ++ [seg s.data.toList a k]).map strV := by rw [hE.out, List.map_append]; rfl
            have e2 : done.length + 1 = (done ++ [seg s.data.toList a k]).length := by simp
            rw [← e1, ← e2]; exact own2
          clear own own2 hg2 hE hc
          go_wp2_with fail
          exact ⟨⟨k + 1, k + 1, _, by go_num, by go_num, by omega, by simp <;> omega, fun _ => Nat.le_refl _, hC2, own3, B2⟩, by simp [intOf]; omega⟩

        · have h32' : (((s[k]'hlt3).toNat : Int) == 32) = false := by rw [beq_eq_false_iff_ne]; exact fun e => h32 (by omega)
          have hC2 : Hid (CJ s.data.toList done a (k + 1)) := CJ_skip hc.out (by rw [HL.out]; exact hlt3) (fun e => h32 (by have e2 : s[k]'hlt3 = 32 := e; rw [e2]; rfl))
          have hk2 : (k : Int) < (s.size : Int) := by omega
          clear hc
          go_wp2_with fail
          exact ⟨⟨k + 1, a, done, by go_num, rfl, by omega, by omega, fun _ => by omega, hC2, own, B⟩, by simp [intOf]; omega⟩
    · have hE := CJ_end hc.out (by rw [HL.out]; exact hlt)
      have hE2 := Lib.hid hE
      clear hE hc
      go_wp2_with fail
      go_ret
      exact ⟨_, rfl, by rw [hE2.out]; exact own, B⟩

set_option maxHeartbeats 8000000 in
theorem l12Words_any (s : ByteArray) (w : World) (hs : s.size ≤ 1000000) :
    Calls Tryd.prog 17 #[.string s] w (NewRow 9 1 (wordsL s.data.toList).length ((wordsL s.data.toList).map strV) w) := by
  obtain ⟨i0, hi, hz0, hz1, hz2⟩ := info_parts infoStr
  have hpl := cutL_len s.data.toList []
  have hpl2 : s.data.toList.length = s.size := rfl
  rw [hpl2] at hpl
  have C := Lib.hid (l12Cut_any s w hs)
  clear hpl2
  unfold wordsL
  generalize cutL [] s.data.toList = ps at *
  go_enter Tryd.func17, Tryd.ntmps17
  go_wp2_with fail
  refine C.out.mono ?_; rintro e w1 ⟨v, rfl, own1, hb⟩
  clear C
  obtain ⟨pa, pc, rfl, hr1⟩ := Row.of_own own1
  have hr : Row w1 pa ps.length pc (fun i => strV (ps.getD i [])) := hr1.congr fun i hi => by
    simp [List.getD_eq_getElem?_getD, List.getElem?_eq_getElem hi]
  clear hr1 own1
  have z1 := hb.size
  go_wp2_with fail
  go_loopw [4, 5] (fun o i wr => ∃ k : Nat, i = .int .i64 k ∧ k ≤ ps.length ∧ wr.ownsRow w1.heap.size 9 1 o ((ps.take k).filter fun p => !p.isEmpty).length (((ps.take k).filter fun p => !p.isEmpty).map strV) ∧ Below w1.heap.size w1 wr) (fun _ i _ => ps.length - (intOf i).toNat)
  case atStart => exact ⟨0, rfl, Nat.zero_le _, own_none, below_self_alloc _ _⟩
  case round =>
    obtain ⟨k, rfl, hk, own, B⟩ := hrel
    have hB := B.size
    by_cases hlt : k < ps.length
    · obtain ⟨_, _, r3⟩ := hr.below B
      rcases r3 with r3 | ⟨b, off, rfl, r4, r5⟩
      · omega
      have r6 : wr.cell? ⟨b, off + k, none⟩ = some (.string ⟨(ps.getD k []).toArray⟩) := r5 k hlt
      have hts : ps.take (k + 1) = ps.take k ++ [ps.getD k []] := by
        rw [List.take_succ_eq_append_getElem hlt, List.getD_eq_getElem?_getD, List.getElem?_eq_getElem hlt]; rfl
      have hfl : ((ps.take k).filter fun p => !p.isEmpty).length ≤ 1000001 := by
        have h1 := List.length_filter_le (fun p : List UInt8 => !p.isEmpty) (ps.take k)
        have h2 : (ps.take k).length ≤ ps.length := List.length_take_le' _ _
        omega
      have FT : Hid ((ps.take (k + 1)).filter (fun p => !p.isEmpty) = (ps.take k).filter (fun p => !p.isEmpty) ++ (if (ps.getD k []).isEmpty then [] else [ps.getD k []])) := by
        show _ = _
        rw [hts, List.filter_append]
        congr 1
        generalize ps.getD k [] = p
        cases p <;> simp
      clear hts r5 hr
      have hk1 : (k : Int) < (ps.length : Int) := by omega
      generalize (ps.take k).filter (fun p => !p.isEmpty) = q at *
      generalize ps.getD k [] = p at *
      cases p with
      | nil =>
        have E : Hid ((ps.take (k + 1)).filter (fun p => !p.isEmpty) = q) := by show _ = _; rw [FT.out]; simp
        go_wp2_with fail
        exact ⟨⟨k + 1, by go_num, by omega, by rw [E.out]; exact own, B⟩, by simp [intOf]; omega⟩
      | cons x r =>
        have E : Hid ((ps.take (k + 1)).filter (fun p => !p.isEmpty) = q ++ [x :: r]) := by show _ = _; rw [FT.out]; simp
        go_wp2_with (at_builtin; refine wpList_append_own _ rfl _ _ 35 rfl w1.heap.size 9 i0 (.string ⟨#[]⟩) 1 16 Tryd.underlying35 hi hz0 hz1 hz2 rfl (by decide) _ _ _ rfl (own.alloc _) ⟨wr.heap.size, 0, none⟩ 1 1 [Value.string ⟨(x :: r).toArray⟩] rfl rfl (cell_new_one _ _ _) (one_new_str _) (by unfold maxLen; omega) (by omega) (by simp; omega) ?_; intro v2 w2 own2 hg2 _; refine Hid.out ?_)
        refine Lib.hid ?_
        have B2 : Below w1.heap.size w1 w2 := (below_step B _).grown hg2 (by simp; omega) (fun k hk => (own.lt k hk).1)
        have own3 : w2.ownsRow w1.heap.size 9 1 v2 (q ++ [x :: r]).length ((q ++ [x :: r]).map strV) := by
          have e1 : q.map strV ++ [Value.string ⟨(x :: r).toArray⟩] = (q ++ [x :: r]).map strV := by rw [List.map_append]; rfl
          have e2 : q.length + 1 = (q ++ [x :: r]).length := by simp
          rw [← e1, ← e2]; exact own2
        clear own own2 hg2
        go_wp2_with fail
        exact ⟨⟨k + 1, by go_num, by omega, by rw [E.out]; exact own3, B2⟩, by simp [intOf]; omega⟩
    · obtain rfl : k = ps.length := by omega
      rw [List.take_length] at own
      clear hr
      go_wp2_with fail
      go_ret
      exact ⟨_, rfl, own_base own z1, hb.trans (B.mono z1)⟩
end Go.Proofs.YtjobbokjebhjgaaDoor
