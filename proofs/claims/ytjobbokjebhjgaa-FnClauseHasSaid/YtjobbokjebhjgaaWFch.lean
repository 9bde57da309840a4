/- The walk of FnClauseHas: for every argument the law returns true and leaves alone what was there. -/
import Derived.Test.YtjobbokjebhjgaaDc
import Derived.Test.YtjobbokjebhjgaaCs
namespace Go.Proofs.Ytjobbokjebhjgaa
open Go.RowKit

theorem Ints.news {w : World} {b o n cap : Nat} {l : List Int} (h : Ints w (.slice (some ⟨b, o, none⟩) n cap) l) : ∀ j u, (l.map (Value.int .i64))[j]? = some u → w.cell? ((⟨b, o, none⟩ : Addr).add j) = some u := by
  obtain ⟨a, c, e, _, _, h3⟩ := h
  cases e
  intro j u hj
  have hlt : j < l.length := by simpa using (List.getElem?_eq_some_iff.1 hj).1
  rcases h3 with h3 | ⟨b', off, e, _, hc⟩
  · omega
  · cases e
    have ea : (Addr.mk b o none).add j = ⟨b, o + j, none⟩ := by simp only [Addr.add]; split <;> simp_all
    rw [ea, hc j hlt]
    simp [List.getD_eq_getElem?_getD, List.getElem?_eq_getElem hlt] at hj ⊢
    exact hj
theorem ints_lit (w : World) (l : List Int) (t : TypeId) (hm : l.length ≤ maxLen) : Ints (w.alloc (.cells (l.map (Value.int .i64)).toArray t)) (.slice (some ⟨w.heap.size, 0, none⟩) l.length l.length) l := by
  refine ⟨_, _, rfl, Nat.le_refl _, hm, .inr ⟨_, 0, rfl, by simp, fun i hi => ?_⟩⟩
  rw [World.cell?_alloc_new]
  simp [hi, List.getD_eq_getElem?_getD]
theorem ints_nil (w : World) : Ints w (.slice none 0 0) [] := ⟨none, 0, rfl, Nat.le_refl _, Nat.zero_le _, .inl rfl⟩
theorem bools_nil (w : World) : Bools w (.slice none 0 0) [] := ⟨none, 0, rfl, Nat.le_refl _, Nat.zero_le _, .inl rfl⟩
theorem nlit_nil (m : Int) : nlit [] m = false := by
  unfold nlit
  by_cases h : 0 < m
  · rw [if_pos h, if_neg (by simp; omega)]
  · rw [if_neg h, if_neg (by simp)]
theorem any_nil (lc : List Int) : lc.any (nlit []) = false := by
  rw [List.any_eq_false]; intro x _; simp [nlit_nil]
theorem any_take {p : Int → Bool} {l : List Int} {k : Nat} (hk : k < l.length) : (l.take (k + 1)).any p = ((l.take k).any p || p (l.getD k 0)) := by
  rw [List.take_succ_eq_append_getElem hk, List.any_append, List.getD_eq_getElem?_getD, List.getElem?_eq_getElem hk]; simp

set_option linter.unusedVariables false in
set_option maxRecDepth 100000 in
set_option maxHeartbeats 4000000 in
theorem walk_FnClauseHas (v : Value) {w : World} (h : BytesIn w v) :
    Calls Try.prog 4 #[v] w fun e w' => e = .returned (.bool true) ∧ Below w.heap.size w w' := by
  obtain ⟨a0, len, cp, rfl⟩ : ∃ a len cap, v = .slice a len cap := by
    rcases h with ⟨a, c, rfl⟩ | ⟨b, off, len, cap, rfl, _⟩ <;> exact ⟨_, _, _, rfl⟩
  by_cases hb : (1048576 : Int) < len
  · go_enter Try.func4, Try.ntmps4
    go_wp2_with fail
    go_ret
    exact ⟨rfl, Below.refl _ _⟩
  obtain ⟨i0, hi, hz0, hz1, hz2⟩ := info_parts infoInt
  go_enter Try.func4, Try.ntmps4
  go_wp2_with fail
  refine (drawClauseHas_any _ _ h).mono ?_
  rintro e w1 ⟨_, rfl, ⟨b, cap, lc, u, l, rfl, hc, hlc, hbd, hv, hl⟩, K⟩
  have hwf : intsWf lc := fun i hi => hbd _ (by rw [List.getD_eq_getElem?_getD, List.getElem?_eq_getElem hi]; exact List.getElem_mem _)
  obtain ⟨a1, c1, rfl⟩ : ∃ a c, u = .slice a l.length c := by obtain ⟨a, c, rfl, _⟩ := hv; exact ⟨a, c, rfl⟩
  go_wp2_with fail
  refine (clauseHas_impl _ lc _ l _ hc hwf hv).mono ?_; rintro e w2 ⟨rfl, hb2⟩
  replace K := below_two K hb2
  replace hc := hc.below hb2
  replace hv := hv.below hb2
  clear hb2
  go_wp2_with fail
  refine (clauseHas_spec _ lc _ l _ hc hwf hv).mono ?_; rintro e w3 d3
  obtain ⟨rfl, hb3⟩ := d3.below
  replace K := below_two K hb3
  replace hc := hc.below hb3
  replace hv := hv.below hb3
  clear hb3 d3
  obtain ⟨z, hz⟩ : ∃ z, z = lc.any (nlit l) := ⟨_, rfl⟩
  rw [← hz]
  have HZ := Lib.hid hz
  clear hz
  go_wp2_with fail
  have hw := Lib.hid hwf
  have HB := Lib.hid hbd
  clear hwf hbd
  go_loopw [7, 6] (fun i o wr => ∃ k : Nat, k ≤ lc.length ∧ i = .int .i64 k ∧ o = .bool ((lc.take k).any (nlit l)) ∧ Ints wr (.slice (some ⟨b, 0, none⟩) lc.length cap) lc ∧ Bools wr (.slice a1 l.length c1) l ∧ Below w.heap.size w wr) (fun i _ _ => lc.length - (intOf i).toNat)
  case atStart => exact ⟨0, Nat.zero_le _, rfl, rfl, hc, hv, K⟩
  case round =>
    clear K hc hv
    obtain ⟨k, hk, rfl, rfl, hc, hv, K⟩ := hrel
    by_cases hlt : k < lc.length
    · have hnext := Lib.hid (any_take (p := nlit l) hlt)
      obtain ⟨x0, x1⟩ := hw.out k hlt
      have r6 : wr.cell? ⟨b, k, none⟩ = some (.int .i64 (lc.getD k 0)) := by
        obtain ⟨_, _, e, _, _, h3⟩ := hc
        cases e
        rcases h3 with h3 | ⟨b', off, e, _, hcc⟩
        · omega
        · cases e
          have := hcc k hlt
          rwa [Nat.zero_add] at this
      generalize (lc.take k).any (nlit l) = o at *
      cases o
      · have I1 := ints_lit wr [lc.getD k 0] 3 (by simp [maxLen])
        have wf1 : intsWf [lc.getD k 0] := fun i hi => by
          obtain rfl : i = 0 := by simpa using hi
          exact ⟨x0, x1⟩
        have V1 := hv.below (below_self_alloc wr (.cells #[.int .i64 (lc.getD k 0)] 3))
        have C1 := below_self_alloc wr (.cells #[.int .i64 (lc.getD k 0)] 3)
        generalize hx : lc.getD k 0 = x at *
        have C := Lib.hid (clauseHas_impl _ [x] _ l _ I1 wf1 V1)
        clear I1 wf1 V1 hx
        go_wp2_with fail
        refine C.out.mono ?_; rintro e w4 ⟨rfl, hb4⟩
        have hc4 := hc.below (C1.trans (hb4.mono (by simp)))
        have hv4 := hv.below (C1.trans (hb4.mono (by simp)))
        have K4 := below_two K (C1.trans (hb4.mono (by simp)))
        have e1 : ([x].any (nlit l)) = nlit l x := by simp
        rw [e1]
        clear hc hv K C1 hb4 C e1
        go_wp2_with fail
        exact ⟨⟨k + 1, by omega, by go_num, by rw [hnext.out, Bool.false_or], hc4, hv4, K4⟩, by simp [intOf]; omega⟩
      · have C1 := K
        generalize hx : lc.getD k 0 = x at *
        clear hx
        go_wp2_with fail
        exact ⟨⟨k + 1, by omega, by go_num, by rw [hnext.out, Bool.true_or], hc, hv, K⟩, by simp [intOf]; omega⟩
    · obtain rfl : k = lc.length := by omega
      rw [List.take_length, ← HZ.out]
      have own0 : (wr.alloc (.cells #[] 3)).ownsRow wr.heap.size 3 1 (.slice (some ⟨wr.heap.size, 0, none⟩) 0 0) 0 [] := World.ownsRow_lit (e := 3) (size := 1) wr #[] 0 (Nat.le_refl _) (Nat.zero_le _) rfl
      have nw := (hc.below (below_self_alloc wr (.cells #[] 3))).news
      have B4 := below_self_alloc wr (.cells #[] 3)
      go_wp2_with (at_builtin; refine wpList_append_own _ rfl _ _ _ rfl wr.heap.size 3 i0 (.int .i64 0) 1 8 Try.underlying22 hi hz0 hz1 hz2 rfl (by omega) _ 0 [] rfl own0 ⟨b, 0, none⟩ lc.length cap (lc.map (.int .i64)) rfl (by simp) nw (ints_oneCell .i64 lc) (by unfold maxLen; omega) (by omega) (by simp) ?_)
      intro v5 w5 own5 hg5 hn5
      have own5'' := own5.alloc (.cells #[.int .i64 3] 3)
      have own5' : (w5.alloc (.cells #[.int .i64 3] 3)).ownsRow wr.heap.size 3 1 v5 lc.length (lc.map (.int .i64)) := by simpa using own5''
      clear own5''
      have B5 : Below wr.heap.size wr w5 := below_grows B4 hg5 (own_row_ge own0)
      go_step
      go_step
      go_step
      refine wpList_append_lies _ rfl _ _ _ rfl wr.heap.size 3 i0 (.int .i64 0) 1 8 Try.underlying22 hi hz0 hz1 hz2 rfl (by omega) v5 lc.length (lc.map (.int .i64)) (by rfl) own5' ⟨w5.heap.size, 0, none⟩ 1 1 [.int .i64 3] rfl rfl (World.news_of_block (heap_alloc_new w5 _)) (by simp [Value.oneCell']) (by omega) (by unfold maxLen; omega) (by omega) (by have := B5.size; simp; omega) _ rfl ?_
      intro b6 cap6 w6 own6 hg6 hat6 hlt6
      have B6 : Below wr.heap.size wr w6 := below_grows (below_step B5 (.cells #[.int .i64 3] 3)) hg6 (own_row_ge own5')
      have hm6 : Ints w6 (.slice (some ⟨b6, 0, none⟩) (lc ++ [3]).length cap6) (lc ++ [3]) := Ints.of_own (base := wr.heap.size) (n := (lc ++ [3]).length) (e := 3) (by simpa using own6)
      have wf6 : intsWf (lc ++ [3]) := fun i hi => by
        have hm : (lc ++ [3]).getD i 0 ∈ lc ++ [3] := by rw [List.getD_eq_getElem?_getD, List.getElem?_eq_getElem hi]; exact List.getElem_mem _
        generalize (lc ++ [3]).getD i 0 = y at *
        rcases List.mem_append.1 hm with hm | hm
        · exact HB.out y hm
        · simp at hm; subst hm; omega
      rw [show lc.length + 1 = (lc ++ [3]).length by simp]
      have e6 : (lc ++ [3]).any (nlit l) = (z || nlit l 3) := by rw [List.any_append, HZ.out]; simp
      replace hc := hc.below B6
      replace hv := hv.below B6
      replace K := K.trans (B6.mono K.size)
      clear own5' own6 hg6 hat6 B5 B6 own5 hg5 hn5 nw B4 own0
      generalize lc ++ [3] = lm at *
      cases z
      · go_wp2_with fail
        refine (clauseHas_impl _ [] _ l _ (ints_nil _) (by intro i hi; exact absurd hi (by simp)) hv).mono ?_; rintro e w7 ⟨rfl, hb7⟩
        replace hc := hc.below hb7
        replace K := below_two K hb7
        clear hb7
        go_wp2_with fail
        refine (clauseHas_impl _ lc _ [] _ hc hw.out (bools_nil _)).mono ?_; rintro e w8 ⟨rfl, hb8⟩
        rw [any_nil]
        replace K := below_two K hb8
        go_wp2_with fail
        go_ret
        exact ⟨rfl, K⟩
      · rw [Bool.true_or] at e6
        go_wp2_with fail
        refine (clauseHas_impl _ lm _ l _ hm6 wf6 hv).mono ?_; rintro e w7 ⟨rfl, hb7⟩
        rw [e6]
        replace hc := hc.below hb7
        replace hv := hv.below hb7
        replace K := below_two K hb7
        clear hb7
        go_wp2_with fail
        refine (clauseHas_impl _ [] _ l _ (ints_nil _) (by intro i hi; exact absurd hi (by simp)) hv).mono ?_; rintro e w8 ⟨rfl, hb8⟩
        replace hc := hc.below hb8
        replace K := below_two K hb8
        clear hb8
        go_wp2_with fail
        refine (clauseHas_impl _ lc _ [] _ hc hw.out (bools_nil _)).mono ?_; rintro e w9 ⟨rfl, hb9⟩
        rw [any_nil]
        replace K := below_two K hb9
        go_wp2_with fail
        go_ret
        exact ⟨rfl, K⟩
end Go.Proofs.Ytjobbokjebhjgaa
