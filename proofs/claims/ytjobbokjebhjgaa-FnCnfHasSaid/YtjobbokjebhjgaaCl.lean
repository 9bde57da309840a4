/- CnfLeast of the reference and of the program. The conditions stand in each statement. -/
import Derived.Test.YtjobbokjebhjgaaCq
import Derived.Deep.LoopGhost
namespace Go.Proofs.Ytjobbokjebhjgaa
open Go.RowKit

/-- a call gave truth values in a row of its own, and a Bool -/
def LeastRet (z : List Bool × Bool) (w : World) (e : Ending) (w' : World) : Prop :=
  ∃ v, e = .returned (.tuple #[v, .bool z.2]) ∧ w'.ownsRow w.heap.size 4 1 v z.1.length (z.1.map .bool) ∧ Below w.heap.size w w'

/-! ### countUp -/
theorem grown_same {a w w1 : World} {g : Nat} (h : a.grownBy w (some g)) (k : w.grownBy w1 (some g)) : a.grownBy w1 (some g) :=
  ⟨k.os.trans h.os, k.tape.trans h.tape, k.output.trans h.output, Nat.le_trans h.size k.size, fun i hi hne => (k.block i (Nat.lt_of_lt_of_le hi h.size) hne).trans (h.block i hi hne)⟩
def Upped (g n cap base : Nat) (z : List Bool × Bool) (w : World) (e : Ending) (w' : World) : Prop :=
  e = .returned (.bool z.2) ∧ w'.ownsRow base 4 1 (.slice (some ⟨g, 0, none⟩) n cap) n (z.1.map .bool) ∧ w.grownBy w' (some g)
theorem getD_map_bool {l : List Bool} {i : Nat} (h : i < l.length) : (l.map Value.bool)[i]? = some (.bool (l.getD i false)) := by
  simp [List.getD_eq_getElem?_getD, h]

set_option maxHeartbeats 2000000 in
theorem countUp_any (g cap base : Nat) (l : List Bool) (w : World) (h : w.ownsRow base 4 1 (.slice (some ⟨g, 0, none⟩) l.length cap) l.length (l.map .bool)) (hm : l.length ≤ 1000000) :
    Calls Try.prog 67 #[.slice (some ⟨g, 0, none⟩) l.length cap] w (Upped g l.length cap base (flipFrom l.length l) w) := by
  obtain ⟨z, hz⟩ : ∃ z, z = flipFrom l.length l := ⟨_, rfl⟩
  rw [← hz]
  have Z := Lib.hid hz
  clear hz
  obtain ⟨n, hn⟩ : ∃ n, n = l.length := ⟨_, rfl⟩
  rw [← hn] at h hm Z ⊢
  have HN := Lib.hid hn
  clear hn
  have G0 := World.grownBy.refl w (some g)
  go_enter Try.func67, Try.ntmps67
  go_wp2
  go_loopw [3] (fun i wr => ∃ (j : Nat) (lc : List Bool), j ≤ n ∧ i = .int .i64 ((j : Int) - 1) ∧ lc.length = n ∧ wr.ownsRow base 4 1 (.slice (some ⟨g, 0, none⟩) n cap) n (lc.map .bool) ∧ w.grownBy wr (some g) ∧ Hid (z = flipFrom j lc)) (fun i _ => (intOf i + 1).toNat)
  case atStart => exact ⟨n, l, Nat.le_refl _, rfl, HN.out.symm, h, G0, Z⟩
  case round =>
    obtain ⟨j, lc, hj, rfl, hlc, own, G, hz⟩ := hrel
    clear Z G0 h HN
    rcases j with _ | j
    · have hz2 : z = (lc, false) := hz.out
      subst hz2
      clear hz
      go_wp2_with fail
      go_ret
      exact ⟨rfl, own, G⟩
    · have c1 : wr.cell? ⟨g, j, none⟩ = some (.bool (lc.getD j false)) := by rw [own.cellAt j (by omega), getD_map_bool (by omega)]
      have f1 := own.frozenAt j
      have hz2 : z = flipFrom (j + 1) lc := hz.out
      unfold flipFrom at hz2
      have hj0 : (0 : Int) ≤ (j : Int) := by omega
      have hj1 : (j : Int) < (n : Int) := by omega
      cases hb : lc.getD j false
      · rw [hb] at c1 hz2
        have hz3 : z = (lc.set j true, true) := hz2
        subst hz3
        obtain ⟨s1, s2⟩ := own.stored j (.bool true)
        have S1 : Hid ((wr.setCell ⟨g, j, none⟩ (.bool true)).ownsRow base 4 1 (.slice (some ⟨g, 0, none⟩) n cap) n ((lc.set j true).map .bool)) := by rw [List.map_set]; exact s1
        have S2 := Lib.hid (grown_same G s2)
        clear hz hz2 s1 s2 own G hb
        go_wp2_with fail
        go_ret
        exact ⟨rfl, S1.out, S2.out⟩
      · rw [hb] at c1 hz2
        have hz3 : z = flipFrom j (lc.set j false) := hz2
        obtain ⟨s1, s2⟩ := own.stored j (.bool false)
        have S1 : Hid ((wr.setCell ⟨g, j, none⟩ (.bool false)).ownsRow base 4 1 (.slice (some ⟨g, 0, none⟩) n cap) n ((lc.set j false).map .bool)) := by rw [List.map_set]; exact s1
        have S2 := Lib.hid (grown_same G s2)
        have HZ := Lib.hid hz3
        have HL : Hid ((lc.set j false).length = n) := by show _ = _; simpa using hlc
        clear hz hz2 hz3 s1 s2 own G hb
        go_wp2_with fail
        exact ⟨⟨j, _, by omega, by go_num, HL.out, S1.out, S2.out, HZ⟩, by simp [intOf]⟩

/-! ### the program's -/
set_option maxRecDepth 100000 in
set_option maxHeartbeats 4000000 in
theorem cnfLeast_impl (m : Int) (v : Value) (ls : List (List Int)) (w : World) (h : IntSS w v ls) (hwf : ssWf ls) :
    Calls Try.prog 38 #[.agg #[.int .i64 m, v]] w (LeastRet (leastL m ls) w) := by
  obtain ⟨i0, hi, hz0, hz1, hz2⟩ := info_parts infoBool
  have hb := below_self_alloc w (.cells #[.int .i64 m, v] 38)
  have A := blk_new w (.int .i64 m) v 38
  replace h := h.below hb
  have C := cnfOk_impl m _ ls _ h hwf
  obtain ⟨a, cap, rfl⟩ := h.form
  have HW := Lib.hid hwf
  clear hwf
  cases hk : cnfOkL m ls
  · rw [hk] at C
    have e : leastL m ls = ([], false) := by unfold leastL; rw [if_neg (by rw [hk]; simp)]
    rw [e]
    clear hk e h A
    go_enter Try.func38, Try.ntmps38
    go_wp2_with fail
    refine C.mono ?_; rintro e w1 ⟨rfl, b1⟩
    go_wp2_with fail
    exact bodyPost_ret (v := .tuple #[.slice none 0 0, .bool false]) (by simp [results, Try.results38, go_sem]) rfl ⟨_, rfl, World.ownsRow_nil _ _ _ _, box2_below b1⟩
  · rw [hk] at C
    obtain ⟨m0, m1, _⟩ := cnfOkL_m hk
    by_cases hm : m ≤ 10
    · have e : leastL m ls = leastFrom m.toNat (holdsL ls) (2 ^ m.toNat) 0 := by unfold leastL; rw [if_pos ⟨hk, hm⟩]
      rw [e]
      clear e hk
      obtain ⟨n, rfl⟩ := Int.eq_ofNat_of_zero_le m0
      have en : ((n : Int).toNat) = n := rfl
      rw [en]
      have hn : n ≤ 10 := by omega
      have hN : 0 < 2 ^ n := Nat.two_pow_pos n
      obtain ⟨z, hz⟩ : ∃ z, z = leastFrom n (holdsL ls) (2 ^ n) 0 := ⟨_, rfl⟩
      rw [← hz]
      have Z : Hid (z = leastFrom n (holdsL ls) (2 ^ n - 0) 0) := hz
      have HN := Lib.hid hN
      clear hz hN en
      go_enter Try.func38, Try.ntmps38
      go_wp2_with fail
      refine C.mono ?_; rintro e w1 ⟨rfl, b1⟩
      replace h := h.below b1
      replace A := A.keep b1
      have B1 := box2_below b1
      have hs1 : w.heap.size + 1 ≤ w1.heap.size := by have := A.lt; omega
      obtain ⟨A0, A1, A2⟩ := A.cells
      clear b1 hb C
      go_wp2_with (at_make; refine wpList_make_full _ rfl _ _ 23 rfl w1.heap.size 4 i0 (.bool false) 1 Try.underlying23 hi hz0 hz1 .i64 .i64 n n n (by rfl) (by rfl) rfl rfl (by rw [hz2]; omega) (by unfold maxLen; omega) (Nat.le_refl _) ?_)
      intro w2 hown hg
      have own2 : w2.ownsRow w1.heap.size 4 1 (.slice (some ⟨w1.heap.size, 0, none⟩) n n) n ((l4v n 0).map .bool) := by
        rw [l4v_zero, List.map_replicate, ← toList_madeCells_one]; exact hown
      have bg : Below w1.heap.size w1 w2 := below_grows (Below.refl _ _) hg (by simp)
      clear hown hg A0 A1 A2
      obtain ⟨A0, A1, A2⟩ := (A.keep bg).cells
      go_wp2_with fail
      go_loopg [] (2 ^ n) (fun q wr => ∃ k : Nat, k < 2 ^ n ∧ q = 2 ^ n - k ∧ wr.ownsRow w1.heap.size 4 1 (.slice (some ⟨w1.heap.size, 0, none⟩) n n) n ((l4v n k).map .bool) ∧ Below w1.heap.size w1 wr ∧ Hid (z = leastFrom n (holdsL ls) (2 ^ n - k) k))
      case atStart => exact ⟨0, HN.out, rfl, own2, bg, Z⟩
      case round =>
        obtain ⟨k, hk, rfl, own, B, hz⟩ := hrel
        clear own2 bg Z A0 A1 A2
        obtain ⟨A0, A1, A2⟩ := (A.keep B).cells
        have hbs := Bools.of_own own
        have C1 := holdsAll_any _ ls _ (l4v n k) wr (h.below B) HW.out hbs
        change Calls _ _ _ _ (fun e w' => e = .returned (.bool (holdsL ls (l4v n k))) ∧ _) at C1
        rcases leastFrom_step hk hz.out with ⟨hp, hz2⟩ | ⟨hp, hz2⟩
        · rw [hp] at C1
          subst hz2
          have C := Lib.hid C1
          clear C1 hp hz hbs
          go_wp2_with fail
          refine C.out.mono ?_; rintro e w3 ⟨rfl, b3⟩
          have own3 := own_keep own b3
          have B3 := below_two B1 (below_two B b3)
          clear C own
          go_wp2_with fail
          exact bodyPost_ret (v := .tuple #[.slice (some ⟨w1.heap.size, 0, none⟩) n n, .bool true]) (by simp [results, Try.results38, go_sem]) rfl ⟨_, rfl, by rw [l4v_len]; exact Go.Joins.ownsRow_le own3 (by omega), B3⟩
        · rw [hp] at C1
          have C := Lib.hid C1
          have HZ := Lib.hid hz2
          clear C1 hp hz hbs hz2
          go_wp2_with fail
          refine C.out.mono ?_; rintro e w3 ⟨rfl, b3⟩
          have own3 := own_keep own b3
          have B3 := below_two B b3
          clear C own B A0 A1 A2 b3
          have D1 := countUp_any w1.heap.size n w1.heap.size (l4v n k) w3 (by rw [l4v_len]; exact own3) (by rw [l4v_len]; omega)
          rw [l4v_len, up_next hn hk] at D1
          by_cases hlast : k + 1 < 2 ^ n
          · rw [if_pos hlast] at D1
            have D := Lib.hid D1
            clear D1 own3
            go_wp2_with fail
            refine D.out.mono ?_; rintro e w4 ⟨rfl, own4, hg4⟩
            have B4 := below_grows B3 hg4 (fun k hk => by cases hk; exact Nat.le_refl _)
            clear D B3 hg4
            go_wp2_with fail
            go_roundg (2 ^ n - (k + 1))
            case measure => omega
            case rel => exact ⟨k + 1, hlast, rfl, own4, B4, HZ⟩
          · rw [if_neg hlast] at D1
            have hk1 : k + 1 = 2 ^ n := by omega
            have hz3 := HZ.out
            rw [hk1, leastFrom_end] at hz3
            subst hz3
            have D := Lib.hid D1
            clear D1 own3 HZ
            go_wp2_with fail
            refine D.out.mono ?_; rintro e w4 ⟨rfl, own4, hg4⟩
            have B4 := below_two B1 (below_grows B3 hg4 (fun k hk => by cases hk; exact Nat.le_refl _))
            clear D B3 hg4
            go_wp2_with fail
            exact bodyPost_ret (v := .tuple #[.slice none 0 0, .bool false]) (by simp [results, Try.results38, go_sem]) rfl ⟨_, rfl, World.ownsRow_nil _ _ _ _, B4⟩
    · have e : leastL m ls = ([], false) := by unfold leastL; rw [if_neg (fun h => hm h.2)]
      rw [e]
      clear hk e h
      go_enter Try.func38, Try.ntmps38
      go_wp2_with fail
      refine C.mono ?_; rintro e w1 ⟨rfl, b1⟩
      obtain ⟨A0, A1, A2⟩ := (A.keep b1).cells
      go_wp2_with fail
      exact bodyPost_ret (v := .tuple #[.slice none 0 0, .bool false]) (by simp [results, Try.results38, go_sem]) rfl ⟨_, rfl, World.ownsRow_nil _ _ _ _, box2_below b1⟩

/-! ### the reference's -/
theorem l4Vals_bools (n k : Nat) (w : World) (hn : n ≤ 1048576) (hk : k ≤ 9223372036854775807) :
    Calls Try.prog 52 #[.int .i64 n, .int .i64 k] w fun e w' => ∃ a c, e = .returned (.slice a n c) ∧ w'.ownsRow w.heap.size 4 1 (.slice a n c) n ((l4v n k).map .bool) ∧ Below w.heap.size w w' :=
  (l4Vals_any n k w hn hk).mono fun e w' ⟨v, he, ho, hb⟩ => by
    obtain ⟨a, c, e2, _⟩ := Row.of_own ho
    subst e2
    exact ⟨a, c, he, ho, hb⟩

set_option maxRecDepth 100000 in
set_option maxHeartbeats 4000000 in
theorem cnfLeast_spec (m : Int) (v : Value) (ls : List (List Int)) (w : World) (h : IntSS w v ls) (hwf : ssWf ls) :
    Calls Try.prog 39 #[.agg #[.int .i64 m, v]] w (LeastRet (leastL m ls) w) := by
  have hb := below_self_alloc w (.cells #[.int .i64 m, v] 38)
  have A := blk_new w (.int .i64 m) v 38
  replace h := h.below hb
  have C := cnfOk_spec m _ ls _ h
  obtain ⟨a, cap, rfl⟩ := h.form
  have HW := Lib.hid hwf
  clear hwf
  cases hk : cnfOkL m ls
  · rw [hk] at C
    have e : leastL m ls = ([], false) := by unfold leastL; rw [if_neg (by rw [hk]; simp)]
    rw [e]
    clear hk e h A
    go_enter Try.func39, Try.ntmps39
    go_wp2_with fail
    refine C.mono ?_; rintro e w1 ⟨rfl, b1⟩
    have O := World.ownsRow_lit (base := w.heap.size) (e := 4) (size := 1) w1 #[] 0 (by have := b1.size; simp at this; omega) (Nat.zero_le _) rfl
    go_wp2_with fail
    exact bodyPost_ret (v := .tuple #[.slice (some ⟨w1.heap.size, 0, none⟩) 0 0, .bool false]) (by simp [results, Try.results39, go_sem]) rfl ⟨_, rfl, O, below_step (box2_below b1) _⟩
  · rw [hk] at C
    obtain ⟨m0, m1, _⟩ := cnfOkL_m hk
    by_cases hm : m ≤ 10
    · have e : leastL m ls = leastFrom m.toNat (holdsL ls) (2 ^ m.toNat) 0 := by unfold leastL; rw [if_pos ⟨hk, hm⟩]
      rw [e]
      clear e
      have HK := Lib.hid hk
      clear hk
      obtain ⟨n, rfl⟩ := Int.eq_ofNat_of_zero_le m0
      have en : ((n : Int).toNat) = n := rfl
      rw [en]
      have hn : n ≤ 10 := by omega
      have hN2 : 2 ^ n ≤ 1024 := Nat.pow_le_pow_right (n := 2) (by decide) hn
      obtain ⟨z, hz⟩ : ∃ z, z = leastFrom n (holdsL ls) (2 ^ n) 0 := ⟨_, rfl⟩
      rw [← hz]
      have Z : Hid (z = leastFrom n (holdsL ls) (2 ^ n - 0) 0) := hz
      clear hz en
      obtain ⟨N, hNN⟩ : ∃ N, N = 2 ^ n := ⟨_, rfl⟩
      have HN := Lib.hid hNN
      rw [← hNN] at hN2
      clear hNN
      go_enter Try.func39, Try.ntmps39
      go_wp2_with fail
      refine C.mono ?_; rintro e w1 ⟨rfl, b1⟩
      replace h := h.below b1
      replace A := A.keep b1
      have B1 := box2_below b1
      have hs1 : w.heap.size + 1 ≤ w1.heap.size := by have := A.lt; omega
      obtain ⟨A0, A1, A2⟩ := A.cells
      clear b1 hb C
      go_wp2_with fail
      go_loop [5, 4] (fun i q => ∃ j : Nat, j ≤ n ∧ i = .int .i64 j ∧ q = .int .i64 ((2 ^ j : Nat) : Int)) (fun i _ => n - (intOf i).toNat)
      case atStart => exact ⟨0, Nat.zero_le _, rfl, rfl⟩
      case round =>
        obtain ⟨j, hj, rfl, rfl⟩ := hrel
        have hp : 2 ^ j ≤ 2 ^ 10 := Nat.pow_le_pow_right (n := 2) (by decide) (by omega)
        have hp1 : ((2 ^ j : Nat) : Int) * 2 = ((2 ^ (j + 1) : Nat) : Int) := by rw [Nat.pow_succ]; omega
        have HP := Lib.hid hp1
        have hp2 : 2 ^ j ≤ 1024 := hp
        clear hp hp1
        by_cases hlt : j < n
        · have hlt2 : (j : Int) < (n : Int) := by omega
          generalize 2 ^ j = x at *
          go_wp2_with fail
          exact ⟨⟨j + 1, by omega, by go_num, by rw [← HP.out]⟩, by simp [intOf]; omega⟩
        · obtain rfl : j = n := by omega
          rw [← HN.out]
          clear HP hp2
          go_wp2_with fail
          go_loopw [6] (fun i wr => ∃ k : Nat, k ≤ N ∧ i = .int .i64 k ∧ Below w1.heap.size w1 wr ∧ Hid (z = leastFrom j (holdsL ls) (2 ^ j - k) k)) (fun i _ => N - (intOf i).toNat)
          case atStart => exact ⟨0, Nat.zero_le _, rfl, Below.refl _ _, Z⟩
          case round =>
            obtain ⟨k, hk, rfl, B, hz⟩ := hrel
            clear Z
            have A' := A.keep B
            clear A0 A1 A2
            obtain ⟨A0, A1, A2⟩ := A'.cells
            by_cases hlt : k < N
            · have hk2 : k < 2 ^ j := by rw [← HN.out]; exact hlt
              have hk3 : (k : Int) < (N : Int) := by omega
              go_wp2_with fail
              refine (l4Vals_bools j k _ (by omega) (by omega)).mono ?_
              rintro e w4 ⟨a4, c4, rfl, own4, b4⟩
              have B4 := below_two B b4
              have h4 := h.below B4
              have A4 := A'.keep b4
              have hs4 := B.size
              have C1 := cnfHas_spec j _ ls _ (l4v j k) w4 h4 HW.out (Bools.of_own own4)
              rw [cnfHasL_of HK.out (by rw [l4v_len])] at C1
              clear b4 B h4 A' A0 A1 A2
              obtain ⟨A0, A1, A2⟩ := A4.cells
              rcases leastFrom_step hk2 hz.out with ⟨hp, hz2⟩ | ⟨hp, hz2⟩
              · rw [hp] at C1
                subst hz2
                have C := Lib.hid C1
                clear C1 hp hz
                go_wp2_with fail
                refine C.out.mono ?_; rintro e w5 ⟨rfl, b5⟩
                have own5 := own_keep own4 b5
                have B5 := below_two B1 (below_two B4 b5)
                clear C own4
                go_wp2_with fail
                exact bodyPost_ret (v := .tuple #[.slice a4 j c4, .bool true]) (by simp [results, Try.results39, go_sem]) rfl ⟨_, rfl, by rw [l4v_len]; exact Go.Joins.ownsRow_le own5 (by omega), B5⟩
              · rw [hp] at C1
                have C := Lib.hid C1
                have HZ := Lib.hid hz2
                clear C1 hp hz hz2 own4
                go_wp2_with fail
                refine C.out.mono ?_; rintro e w5 ⟨rfl, b5⟩
                have B5 := below_two B4 b5
                clear C
                go_wp2_with fail
                exact ⟨⟨k + 1, by omega, by go_num, B5, HZ⟩, by simp [intOf]; omega⟩
            · obtain rfl : k = N := by omega
              have hz2 := hz.out
              rw [HN.out, leastFrom_end] at hz2
              subst hz2
              have O := World.ownsRow_lit (base := w.heap.size) (e := 4) (size := 1) wr #[] 0 (by have := B.size; omega) (Nat.zero_le _) rfl
              have BB := below_step (below_two B1 B) (.cells #[] 4)
              clear hz B
              go_wp2_with fail
              exact bodyPost_ret (v := .tuple #[.slice (some ⟨wr.heap.size, 0, none⟩) 0 0, .bool false]) (by simp [results, Try.results39, go_sem]) rfl ⟨_, rfl, O, BB⟩
    · have e : leastL m ls = ([], false) := by unfold leastL; rw [if_neg (fun h => hm h.2)]
      rw [e]
      clear hk e h
      go_enter Try.func39, Try.ntmps39
      go_wp2_with fail
      refine C.mono ?_; rintro e w1 ⟨rfl, b1⟩
      obtain ⟨A0, A1, A2⟩ := (A.keep b1).cells
      have O := World.ownsRow_lit (base := w.heap.size) (e := 4) (size := 1) w1 #[] 0 (by have := b1.size; simp at this; omega) (Nat.zero_le _) rfl
      go_wp2_with fail
      exact bodyPost_ret (v := .tuple #[.slice (some ⟨w1.heap.size, 0, none⟩) 0 0, .bool false]) (by simp [results, Try.results39, go_sem]) rfl ⟨_, rfl, O, below_step (box2_below b1) _⟩
end Go.Proofs.Ytjobbokjebhjgaa
