/- The walk of FnCnfLeast: for every argument the law returns true and leaves alone what was there. -/
import Derived.Test.YtjobbokjebhjgaaDd
import Derived.Test.YtjobbokjebhjgaaCl
import Derived.Deep.DeepCutAuto
namespace Go.Proofs.Ytjobbokjebhjgaa
open Go.RowKit

theorem least_holds {n : Nat} {p : List Bool → Bool} : ∀ f k, (leastFrom n p f k).2 = true → p (leastFrom n p f k).1 = true ∧ (leastFrom n p f k).1.length = n
  | 0, _, h => by simp [leastFrom] at h
  | f + 1, k, h => by
    unfold leastFrom at h ⊢
    cases hp : p (l4v n k)
    · rw [hp] at h; exact least_holds f (k + 1) h
    · exact ⟨hp, l4v_len _ _⟩
theorem leastL_on {m : Int} {ls : List (List Int)} (hk : cnfOkL m ls = true) (hm : m ≤ 10) : leastL m ls = leastFrom m.toNat (holdsL ls) (2 ^ m.toNat) 0 := by unfold leastL; rw [if_pos ⟨hk, hm⟩]
theorem leastL_off {m : Int} {ls : List (List Int)} (h : cnfOkL m ls = false ∨ ¬ m ≤ 10) : leastL m ls = ([], false) := by
  unfold leastL
  rw [if_neg]
  rintro ⟨h1, h2⟩
  rcases h with h | h
  · rw [h] at h1; cases h1
  · exact h h2

set_option maxHeartbeats 2000000 in
theorem wpBools_any (v v' : Value) (l l' : List Bool) (w : World) (h : Bools w v l) (h' : Bools w v' l') :
    Calls Try.prog 40 #[v, v'] w (DrewRet (.bool (decide (l = l'))) w) := by
  have hl := h.len
  have hl' := h'.len
  obtain ⟨a, cap, rfl, hr⟩ := h
  obtain ⟨a', cap', rfl, hr'⟩ := h'
  by_cases hn : l.length = l'.length
  · obtain ⟨r1, r2, r3⟩ := hr
    obtain ⟨r1', r2', r3'⟩ := hr'
    rw [← hn] at r1' r3'
    have D : Hid (∀ i, i < l.length → (l.getD i false ≠ l'.getD i false → decide (l = l') = false)) := fun i _ h => by simpa using list_ne_at false h
    have E : Hid ((∀ i, i < l.length → l.getD i false = l'.getD i false) → decide (l = l') = true) := fun h => by simpa using list_eq_of false hn h
    rw [← hn]
    generalize decide (l = l') = z at *
    clear hn hl'
    go_enter Try.func40, Try.ntmps40
    go_wp2
    go_loopw [5] (fun i wr => ∃ k : Nat, k ≤ l.length ∧ i = .int .i64 k ∧ Hid (∀ i, i < k → l.getD i false = l'.getD i false) ∧ ∃ m, wr = w.drewN m) (fun i _ => l.length - (intOf i).toNat)
    case atStart => exact ⟨0, Nat.zero_le _, rfl, fun i hi => absurd hi (by omega), 0, rfl⟩
    case round =>
      obtain ⟨k, hk, rfl, hsame, m, rfl⟩ := hrel
      by_cases hlt : k < l.length
      · rcases r3 with r3 | ⟨b, off, rfl, r4, r5⟩
        · omega
        rcases r3' with r3' | ⟨b', off', rfl, r4', r5'⟩
        · omega
        have r6 : w.cell? ⟨b, off + k, none⟩ = some (.bool (l.getD k false)) := r5 k hlt
        have r6' : w.cell? ⟨b', off' + k, none⟩ = some (.bool (l'.getD k false)) := r5' k hlt
        have S : Hid (l.getD k false = l'.getD k false → ∀ i, i < k + 1 → l.getD i false = l'.getD i false) := fun h i hi => by
          rcases Nat.lt_or_ge i k with h1 | h1
          · exact hsame.out i h1
          · rw [show i = k by omega]; exact h
        have D2 : Hid (l.getD k false ≠ l'.getD k false → z = false) := D.out k hlt
        clear r5 r5' hsame D E
        generalize l.getD k false = x at *
        generalize l'.getD k false = y at *
        have hk0 : (0 : Int) ≤ (k : Int) := by omega
        have hk1 : (k : Int) < (l.length : Int) := by omega
        by_cases hxy : x = y
        · subst hxy
          have S2 : Hid (∀ i, i < k + 1 → l.getD i false = l'.getD i false) := S.out rfl
          clear S D2
          go_wp2_with fail
          go_quiet (fail)
          go_wp2_with fail
          exact ⟨⟨k + 1, by omega, by go_num, S2, _, rfl⟩, by simp [intOf]; omega⟩
        · have hz := D2.out hxy
          subst hz
          obtain rfl : x = !y := by cases x <;> cases y <;> simp_all
          clear S D2 hxy
          go_wp2_with fail
          go_quiet (fail)
          rename_i nq
          go_wp2_with fail
          go_ret
          exact ⟨rfl, m + nq, by simp [World.drewN, Nat.add_assoc]⟩
      · obtain rfl : k = l.length := by omega
        have hz := E.out hsame.out
        subst hz
        clear D E hsame
        go_wp2_with fail
        go_ret
        exact ⟨rfl, _, rfl⟩
  · have hz : decide (l = l') = false := by simpa using fun e => hn (by rw [e])
    rw [hz]
    have hn' : ((l.length : Int) != (l'.length : Int)) = true := by simp; omega
    clear hr hr' hz
    go_enter Try.func40, Try.ntmps40
    go_wp2
    go_ret
    exact ⟨rfl, 0, rfl⟩
set_option linter.unusedVariables false in
set_option maxRecDepth 100000 in
set_option maxHeartbeats 8000000 in
theorem walk_FnCnfLeast (v : Value) {w : World} (h : BytesIn w v) :
    Calls Try.prog 11 #[v] w fun e w' => e = .returned (.bool true) ∧ Below w.heap.size w w' := by
  obtain ⟨a0, len, cp, rfl⟩ : ∃ a len cap, v = .slice a len cap := by
    rcases h with ⟨a, c, rfl⟩ | ⟨b, off, len, cap, rfl, _⟩ <;> exact ⟨_, _, _, rfl⟩
  by_cases hb : (1048576 : Int) < len
  · go_enter Try.func11, Try.ntmps11
    go_wp2_with fail
    go_ret
    exact ⟨rfl, Below.refl _ _⟩
  obtain ⟨i0, hi, hz0, hz1, hz2⟩ := info_parts infoBool
  go_enter Try.func11, Try.ntmps11
  go_wp2_with fail
  refine (drawCnfLeast_any _ _ h).mono ?_
  rintro e w1 ⟨_, rfl, ⟨m, x, ls, rfl, hc, hm64, hlen, hwf0⟩, K⟩
  obtain ⟨a1, c1, rfl⟩ := hc.form
  have hwf := Lib.hid hwf0
  clear hwf0
  replace K := below_step K (.cells #[.int .i64 m, .slice a1 ls.length c1] 38)
  have C := blk_new w1 (.int .i64 m) (.slice a1 ls.length c1) 38
  replace hc := hc.below (below_self_alloc w1 (.cells #[.int .i64 m, .slice a1 ls.length c1] 38))
  obtain ⟨z, hz⟩ : ∃ z, z = leastL m ls := ⟨_, rfl⟩
  have CS : Hid (∀ v' w', IntSS w' v' ls → Calls Try.prog 39 #[.agg #[.int .i64 m, v']] w' (LeastRet z w')) := fun v' w' h => by rw [hz]; exact cnfLeast_spec m v' ls w' h hwf.out
  have CI : Hid (∀ v' w', IntSS w' v' ls → Calls Try.prog 38 #[.agg #[.int .i64 m, v']] w' (LeastRet z w')) := fun v' w' h => by rw [hz]; exact cnfLeast_impl m v' ls w' h hwf.out
  have HZ := Lib.hid hz
  clear hz
  obtain ⟨l, b⟩ := z
  obtain ⟨C0, C1, C2⟩ := C.cells
  go_wp2_with fail
  refine (CI.out _ _ hc.now).mono ?_; rintro e w2 ⟨y2, rfl, o2w, hb2⟩
  obtain ⟨p2, c2, rfl, _⟩ := Row.of_own o2w
  replace K := below_two K hb2
  replace C := C.keep hb2
  replace hc := hc.below hb2
  clear C0 C1 C2 hb2
  obtain ⟨C0, C1, C2⟩ := C.cells
  go_wp2_with fail
  refine (CS.out _ _ hc.now).mono ?_; rintro e w3 ⟨y3, rfl, o3w, hb3⟩
  obtain ⟨p3, c3, rfl, _⟩ := Row.of_own o3w
  replace K := below_two K hb3
  replace C := C.keep hb3
  replace hc := hc.below hb3
  replace o2w := own_keep o2w hb3
  clear C0 C1 C2 hb3 CS CI
  obtain ⟨C0, C1, C2⟩ := C.cells
  go_wp2_with fail
  refine (wpBools_any _ _ l l _ (Bools.of_own o2w) (Bools.of_own o3w)).mono ?_; rintro e w4 d4
  obtain ⟨rfl, hb4⟩ := d4.below
  rw [decide_eq_true rfl]
  replace K := below_two K hb4
  replace C := C.keep hb4
  replace hc := hc.below hb4
  replace o2w := own_keep o2w hb4
  clear C0 C1 C2 hb4 d4 o3w
  obtain ⟨C0, C1, C2⟩ := C.cells
  go_wp2_with fail
  refine (cnfOk_spec m _ ls _ hc.now).mono ?_; rintro e w5 ⟨rfl, hb5⟩
  replace K := below_two K hb5
  replace C := C.keep hb5
  replace hc := hc.below hb5
  replace o2w := own_keep o2w hb5
  clear C0 C1 C2 hb5
  obtain ⟨C0, C1, C2⟩ := C.cells
  cases hk : cnfOkL m ls
  · have e := HZ.out
    rw [leastL_off (.inl hk)] at e
    cases e
    clear hk
    go_wp2_with fail
    go_ret
    exact ⟨rfl, K⟩
  obtain ⟨m0, m1, _⟩ := cnfOkL_m hk
  by_cases hm : m ≤ 10
  case neg =>
    have e := HZ.out
    rw [leastL_off (.inr hm)] at e
    cases e
    clear hk
    go_wp2_with fail
    go_ret
    exact ⟨rfl, K⟩
  have hz := HZ.out
  rw [leastL_on hk hm] at hz
  obtain ⟨n, rfl⟩ := Int.eq_ofNat_of_zero_le m0
  have en : ((n : Int).toNat) = n := rfl
  rw [en] at hz
  have hn : n ≤ 10 := by omega
  have hp2 := Lib.hid (Nat.two_pow_pos n)
  have Z : Hid ((l, b) = leastFrom n (holdsL ls) (2 ^ n - 0) 0) := hz
  have HK := Lib.hid hk
  have hl10 : l.length ≤ 10 := by
    have := least_holds (p := holdsL ls) (n := n) (2 ^ n) 0
    rw [← hz] at this
    cases b
    · have : l = [] := by
        have hf : ∀ (f k : Nat), (leastFrom n (holdsL ls) f k).2 = false → (leastFrom n (holdsL ls) f k).1 = [] := by
          intro f
          induction f with
          | zero => intro k _; rfl
          | succ f ih =>
            intro k hh
            unfold leastFrom at hh ⊢
            cases hp : holdsL ls (l4v n k)
            · rw [hp] at hh; exact ih _ hh
            · rw [hp] at hh; cases hh
        have h2 := hf (2 ^ n) 0
        rw [← hz] at h2
        exact h2 rfl
      rw [this]; simp
    · have := (this rfl).2; simp at this; omega
  have hmain : b = true → cnfHasL n ls l = true := by
    rintro rfl
    have := least_holds (p := holdsL ls) (n := n) (2 ^ n) 0
    rw [← hz] at this
    obtain ⟨h1, h2⟩ := this rfl
    rw [cnfHasL_of hk (by simp at h2; omega)]
    exact h1
  have HM := Lib.hid hmain
  clear hz hk en hmain
  -- by program
  cases b
  · have K' := K
    go_wp2_with (at_make; refine wpList_make_full _ rfl _ _ 23 rfl w5.heap.size 4 i0 (.bool false) 1 Try.underlying23 hi hz0 hz1 .i64 .i64 n n n (by rfl) (by rfl) rfl rfl (by rw [hz2]; omega) (by unfold maxLen; omega) (Nat.le_refl _) ?_)
    intro w7 hown hg7
    have own7 : w7.ownsRow w5.heap.size 4 1 (.slice (some ⟨w5.heap.size, 0, none⟩) n n) n ((l4v n 0).map .bool) := by rw [l4v_zero, List.map_replicate, ← toList_madeCells_one]; exact hown
    have bg : Below w5.heap.size w5 w7 := below_grows (Below.refl _ _) hg7 (by simp)
    clear hown hg7 C0 C1 C2
    obtain ⟨C0, C1, C2⟩ := (C.keep bg).cells
    go_wp2_with fail
    go_loopg [] (2 ^ n) (fun q wr => ∃ k : Nat, k < 2 ^ n ∧ q = 2 ^ n - k ∧ wr.ownsRow w5.heap.size 4 1 (.slice (some ⟨w5.heap.size, 0, none⟩) n n) n ((l4v n k).map .bool) ∧ Below w5.heap.size w5 wr ∧ Hid ((l, false) = leastFrom n (holdsL ls) (2 ^ n - k) k))
    case atStart => exact ⟨0, hp2.out, rfl, own7, bg, Z⟩
    case round =>
      obtain ⟨k, hk, rfl, own, Bw, hz⟩ := hrel
      clear own7 bg Z C0 C1 C2
      have hk2 := Lib.hid hk
      have hs : holdsL ls (l4v n k) = false ∧ Hid ((l, false) = leastFrom n (holdsL ls) (2 ^ n - (k + 1)) (k + 1)) := by
        rcases leastFrom_step hk hz.out with ⟨_, h2⟩ | ⟨h1, h2⟩
        · cases congrArg Prod.snd h2
        · exact ⟨h1, h2⟩
      obtain ⟨hs1, hs2⟩ := hs
      clear hz
      obtain ⟨C0, C1, C2⟩ := (C.keep Bw).cells
      go_wp2_with fail
      have D1 := cnfHas_impl n _ ls _ (l4v n k) wr (hc.now.below Bw) hwf.out (Bools.of_own own)
      rw [cnfHasL_of HK.out (by rw [l4v_len]), hs1] at D1
      have D := Lib.hid D1
      clear D1 hs1
      refine D.out.mono ?_; rintro e w9 ⟨rfl, hb9⟩
      replace own := own_keep own hb9
      replace Bw := below_two Bw hb9
      clear D hb9 C0 C1 C2
      obtain ⟨C0, C1, C2⟩ := (C.keep Bw).cells
      have hup := Lib.hid (up_next hn hk)
      obtain ⟨fz, hfz⟩ : ∃ fz, fz = flipFrom n (l4v n k) := ⟨_, rfl⟩
      rw [← hfz] at hup
      have HF := Lib.hid hfz
      clear hfz
      go_wp2_with fail
      go_loopg [9] n (fun q i ws => ∃ lc : List Bool, q ≤ n ∧ i = .int .i64 ((q : Int) - 1) ∧ lc.length = n ∧ ws.ownsRow w5.heap.size 4 1 (.slice (some ⟨w5.heap.size, 0, none⟩) n n) n (lc.map .bool) ∧ Below w5.heap.size w5 ws ∧ Hid (fz = flipFrom q lc))
      case atStart => exact ⟨l4v n k, Nat.le_refl _, rfl, l4v_len _ _, own, Bw, HF⟩
      case round =>
        obtain ⟨lc, hq, rfl, hlc, own2, B2, hf⟩ := hrel
        clear own Bw HF C0 C1 C2
        rcases gk with _ | j
        · have hf2 : fz = (lc, false) := hf.out
          have hlast : k + 1 = 2 ^ n := by
            have := hup.out
            rw [hf2] at this
            by_cases hl : k + 1 < 2 ^ n
            · rw [if_pos hl] at this; cases congrArg Prod.snd this
            · have := hk2.out; omega
          have hz3 := hs2.out
          rw [hlast, leastFrom_end] at hz3
          have K9 := below_two K B2
          clear hf hf2 hlast hz3 own2 B2 hup hs2
          go_wp2_with fail
          go_ret
          exact ⟨rfl, K9⟩
        · have c1 : wr.cell? ⟨w5.heap.size, j, none⟩ = some (.bool (lc.getD j false)) := by rw [own2.cellAt j (by omega), getD_map_bool (by omega)]
          have f1 := own2.frozenAt j
          have hf2 : fz = flipFrom (j + 1) lc := hf.out
          unfold flipFrom at hf2
          have hj0 : (0 : Int) ≤ (j : Int) := by omega
          have hj1 : (j : Int) < (n : Int) := by omega
          cases hb : lc.getD j false
          · rw [hb] at c1 hf2
            have hf3 : fz = (lc.set j true, true) := hf2
            obtain ⟨s1, s2⟩ := own2.stored j (.bool true)
            have hup2 := hup.out
            rw [hf3] at hup2
            have hlt : k + 1 < 2 ^ n := by
              by_cases hl : k + 1 < 2 ^ n
              · exact hl
              · rw [if_neg hl] at hup2; cases congrArg Prod.snd hup2
            rw [if_pos hlt] at hup2
            have e3 : lc.set j true = l4v n (k + 1) := congrArg Prod.fst hup2
            have S1 : Hid ((wr.setCell ⟨w5.heap.size, j, none⟩ (.bool true)).ownsRow w5.heap.size 4 1 (.slice (some ⟨w5.heap.size, 0, none⟩) n n) n ((l4v n (k + 1)).map .bool)) := by rw [← e3, List.map_set]; exact s1
            have S2 := Lib.hid (below_grows B2 s2 (fun k hk => by cases hk; exact Nat.le_refl _))
            have HLT := Lib.hid hlt
            clear hf hf2 hf3 hup hup2 hlt e3 s1 s2 own2 B2 hb
            go_wp2_with fail
            go_roundg (2 ^ n - (k + 1))
            case measure => have := hk2.out; omega
            case rel => exact ⟨k + 1, HLT.out, rfl, S1.out, S2.out, hs2⟩
          · rw [hb] at c1 hf2
            have hf3 : fz = flipFrom j (lc.set j false) := hf2
            obtain ⟨s1, s2⟩ := own2.stored j (.bool false)
            have S1 : Hid ((wr.setCell ⟨w5.heap.size, j, none⟩ (.bool false)).ownsRow w5.heap.size 4 1 (.slice (some ⟨w5.heap.size, 0, none⟩) n n) n ((lc.set j false).map .bool)) := by rw [List.map_set]; exact s1
            have S2 := Lib.hid (below_grows B2 s2 (fun k hk => by cases hk; exact Nat.le_refl _))
            have HF3 := Lib.hid hf3
            have HLC : Hid ((lc.set j false).length = n) := by show _ = _; simpa using hlc
            clear hf hf2 hf3 s1 s2 own2 B2 hb
            go_wp2_with fail
            go_roundg j
            case measure => omega
            case rel => exact ⟨_, by omega, by go_num, HLC.out, S1.out, S2.out, HF3⟩
  · go_wp2_with fail
    refine (cnfHas_impl _ _ ls _ l _ hc.now hwf.out (Bools.of_own o2w)).mono ?_; rintro e w6 ⟨rfl, hb6⟩
    rw [HM.out trivial]
    replace K := below_two K hb6
    replace C := C.keep hb6
    replace hc := hc.below hb6
    replace o2w := own_keep o2w hb6
    clear C0 C1 C2 hb6
    obtain ⟨C0, C1, C2⟩ := C.cells
    go_wp2_with (at_make; refine wpList_make_full _ rfl _ _ 23 rfl w6.heap.size 4 i0 (.bool false) 1 Try.underlying23 hi hz0 hz1 .i64 .i64 n n n (by rfl) (by rfl) rfl rfl (by rw [hz2]; omega) (by unfold maxLen; omega) (Nat.le_refl _) ?_)
    intro w7 hown hg7
    have own7 : w7.ownsRow w6.heap.size 4 1 (.slice (some ⟨w6.heap.size, 0, none⟩) n n) n ((l4v n 0).map .bool) := by rw [l4v_zero, List.map_replicate, ← toList_madeCells_one]; exact hown
    have bg : Below w6.heap.size w6 w7 := below_grows (Below.refl _ _) hg7 (by simp)
    clear hown hg7 C0 C1 C2
    obtain ⟨C0, C1, C2⟩ := (C.keep bg).cells
    go_wp2_with fail
    go_loopg [] (2 ^ n) (fun q wr => ∃ k : Nat, k < 2 ^ n ∧ q = 2 ^ n - k ∧ wr.ownsRow w6.heap.size 4 1 (.slice (some ⟨w6.heap.size, 0, none⟩) n n) n ((l4v n k).map .bool) ∧ Below w6.heap.size w6 wr ∧ Hid ((l, true) = leastFrom n (holdsL ls) (2 ^ n - k) k))
    case atStart => exact ⟨0, hp2.out, rfl, own7, bg, Z⟩
    case round =>
      obtain ⟨k, hk, rfl, own, Bw, hz⟩ := hrel
      clear own7 bg Z C0 C1 C2
      have hk2 := Lib.hid hk
      have W1 := wpBools_any _ _ (l4v n k) l wr (Bools.of_own own) (Bools.of_own (own_keep o2w Bw))
      by_cases he : l4v n k = l
      · rw [decide_eq_true he] at W1
        have W2 := Lib.hid W1
        clear W1 he
        go_wp2_with fail
        refine W2.out.mono ?_; rintro e w8 d8
        obtain ⟨rfl, hb8⟩ := d8.below
        have K8 := below_two K (below_two Bw hb8)
        clear W2 d8 hb8
        go_wp2_with fail
        go_ret
        exact ⟨rfl, K8⟩
      rw [decide_eq_false he] at W1
      have W2 := Lib.hid W1
      have hs : holdsL ls (l4v n k) = false ∧ Hid ((l, true) = leastFrom n (holdsL ls) (2 ^ n - (k + 1)) (k + 1)) := by
        rcases leastFrom_step hk hz.out with ⟨_, h2⟩ | ⟨h1, h2⟩
        · exact absurd (congrArg Prod.fst h2).symm he
        · exact ⟨h1, h2⟩
      clear W1 he
      obtain ⟨hs1, hs2⟩ := hs
      clear hz
      go_wp2_with fail
      refine W2.out.mono ?_; rintro e w8 d8
      obtain ⟨rfl, hb8⟩ := d8.below
      replace own := own_keep own hb8
      replace Bw := below_two Bw hb8
      clear W2 d8 hb8
      obtain ⟨C0, C1, C2⟩ := (C.keep Bw).cells
      go_wp2_with fail
      have D1 := cnfHas_impl n _ ls _ (l4v n k) w8 (hc.now.below Bw) hwf.out (Bools.of_own own)
      rw [cnfHasL_of HK.out (by rw [l4v_len]), hs1] at D1
      have D := Lib.hid D1
      clear D1 hs1
      refine D.out.mono ?_; rintro e w9 ⟨rfl, hb9⟩
      replace own := own_keep own hb9
      replace Bw := below_two Bw hb9
      clear D hb9 C0 C1 C2
      obtain ⟨C0, C1, C2⟩ := (C.keep Bw).cells
      have hup := Lib.hid (up_next hn hk)
      obtain ⟨fz, hfz⟩ : ∃ fz, fz = flipFrom n (l4v n k) := ⟨_, rfl⟩
      rw [← hfz] at hup
      have HF := Lib.hid hfz
      clear hfz
      go_wp2_with fail
      go_loopg [9] n (fun q i ws => ∃ lc : List Bool, q ≤ n ∧ i = .int .i64 ((q : Int) - 1) ∧ lc.length = n ∧ ws.ownsRow w6.heap.size 4 1 (.slice (some ⟨w6.heap.size, 0, none⟩) n n) n (lc.map .bool) ∧ Below w6.heap.size w6 ws ∧ Hid (fz = flipFrom q lc))
      case atStart => exact ⟨l4v n k, Nat.le_refl _, rfl, l4v_len _ _, own, Bw, HF⟩
      case round =>
        obtain ⟨lc, hq, rfl, hlc, own2, B2, hf⟩ := hrel
        clear own Bw HF C0 C1 C2
        rcases gk with _ | j
        · have hf2 : fz = (lc, false) := hf.out
          have hlast : k + 1 = 2 ^ n := by
            have := hup.out
            rw [hf2] at this
            by_cases hl : k + 1 < 2 ^ n
            · rw [if_pos hl] at this; cases congrArg Prod.snd this
            · have := hk2.out; omega
          have hz3 := hs2.out
          rw [hlast, leastFrom_end] at hz3
          cases congrArg Prod.snd hz3
        · have c1 : wr.cell? ⟨w6.heap.size, j, none⟩ = some (.bool (lc.getD j false)) := by rw [own2.cellAt j (by omega), getD_map_bool (by omega)]
          have f1 := own2.frozenAt j
          have hf2 : fz = flipFrom (j + 1) lc := hf.out
          unfold flipFrom at hf2
          have hj0 : (0 : Int) ≤ (j : Int) := by omega
          have hj1 : (j : Int) < (n : Int) := by omega
          cases hb : lc.getD j false
          · rw [hb] at c1 hf2
            have hf3 : fz = (lc.set j true, true) := hf2
            obtain ⟨s1, s2⟩ := own2.stored j (.bool true)
            have hup2 := hup.out
            rw [hf3] at hup2
            have hlt : k + 1 < 2 ^ n := by
              by_cases hl : k + 1 < 2 ^ n
              · exact hl
              · rw [if_neg hl] at hup2; cases congrArg Prod.snd hup2
            rw [if_pos hlt] at hup2
            have e3 : lc.set j true = l4v n (k + 1) := congrArg Prod.fst hup2
            have S1 : Hid ((wr.setCell ⟨w6.heap.size, j, none⟩ (.bool true)).ownsRow w6.heap.size 4 1 (.slice (some ⟨w6.heap.size, 0, none⟩) n n) n ((l4v n (k + 1)).map .bool)) := by rw [← e3, List.map_set]; exact s1
            have S2 := Lib.hid (below_grows B2 s2 (fun k hk => by cases hk; exact Nat.le_refl _))
            have HLT := Lib.hid hlt
            clear hf hf2 hf3 hup hup2 hlt e3 s1 s2 own2 B2 hb
            go_wp2_with fail
            go_roundg (2 ^ n - (k + 1))
            case measure => have := hk2.out; omega
            case rel => exact ⟨k + 1, HLT.out, rfl, S1.out, S2.out, hs2⟩
          · rw [hb] at c1 hf2
            have hf3 : fz = flipFrom j (lc.set j false) := hf2
            obtain ⟨s1, s2⟩ := own2.stored j (.bool false)
            have S1 : Hid ((wr.setCell ⟨w6.heap.size, j, none⟩ (.bool false)).ownsRow w6.heap.size 4 1 (.slice (some ⟨w6.heap.size, 0, none⟩) n n) n ((lc.set j false).map .bool)) := by rw [List.map_set]; exact s1
            have S2 := Lib.hid (below_grows B2 s2 (fun k hk => by cases hk; exact Nat.le_refl _))
            have HF3 := Lib.hid hf3
            have HLC : Hid ((lc.set j false).length = n) := by show _ = _; simpa using hlc
            clear hf hf2 hf3 s1 s2 own2 B2 hb
            go_wp2_with fail
            go_roundg j
            case measure => omega
            case rel => exact ⟨_, by omega, by go_num, HLC.out, S1.out, S2.out, HF3⟩
end Go.Proofs.Ytjobbokjebhjgaa
