/- What DrawClauseHas gives: a clause and truth values. The conditions stand in each statement. -/
import Derived.Test.YtjobbokjebhjgaaDr
import Derived.Test.YtjobbokjebhjgaaBy
namespace Go.Proofs.Ytjobbokjebhjgaa
open Go.RowKit

/-- a call gave a value that reads in the world behind it as Q says, and kept what was there -/
def GaveIn (Q : World → Value → Prop) (w : World) (e : Ending) (w' : World) : Prop := ∃ x, e = .returned x ∧ Q w' x ∧ Below w.heap.size w w'
def IsCB (w : World) (x : Value) : Prop := ∃ (b cap : Nat) (lc : List Int) (u : Value) (l : List Bool), x = .tuple #[.slice (some ⟨b, 0, none⟩) lc.length cap, u] ∧ Ints w (.slice (some ⟨b, 0, none⟩) lc.length cap) lc ∧ lc.length ≤ 7 ∧ (∀ y ∈ lc, -9223372036854775808 ≤ y ∧ y ≤ 9223372036854775807) ∧ Bools w u l ∧ l.length ≤ 6
/-- an integer of Go -/
def I64 (n : Int) : Prop := -9223372036854775808 ≤ n ∧ n ≤ 9223372036854775807

set_option maxRecDepth 100000 in
set_option maxHeartbeats 4000000 in
theorem drawClauseHas_any (v : Value) (w : World) (h : BytesIn w v) :
    Calls Try.prog 20 #[v] w (GaveIn IsCB w) := by
  obtain ⟨i0, hi, hz0, hz1, hz2⟩ := info_parts infoInt
  go_enter Try.func20, Try.ntmps20
  go_wp2_with fail
  refine (l12Open_any v _ h).mono ?_
  rintro e w1 ⟨g, u, rfl, hg, hb1, hr1⟩
  have gl1 := hr1.lt
  go_wp2_with fail
  refine (l4Draw_any g 0 u 6 2 _ hr1 (by omega) (by omega)).mono ?_
  rintro e w2 ⟨b, cap, l, rfl, own, ⟨hq1, hq2⟩, hg2, hr2⟩
  have B2 := below_of_grown hb1 hg2 hg
  have s2 := hg2.size
  have hb1s := hb1.size
  clear hb1
  go_wp2_with fail
  refine (pick_any g _ u 12 _ hr2 (by omega)).mono ?_
  rintro e w3 ⟨k, rfl, k0, k1, _, hg3, hr3⟩
  have B3 := below_of_grown B2 hg3 hg
  replace own := own_grown own hg3 gl1
  have s3 := hg3.size
  have R0 := hr1
  clear B2 hg2 hg3 hr2 k1
  by_cases hz : k = 0
  · subst hz
    go_wp2_with fail
    refine (num_in I64 g _ u w3.heap.size 5 5 _ (hr3.alloc _) (by omega) (by omega) (by omega) (by have := hr3.lt; omega) (new_ints_in w3 I64 [0, 9, -9, -9223372036854775808, 9223372036854775807] 3 (by simp [I64]))).mono ?_
    rintro e w4 ⟨_, rfl, ⟨x, rfl, hx⟩, hg4, hr4⟩
    replace own := own_grown (own.alloc _) hg4 gl1
    have B4 := below_of_grown (below_step B3 _) hg4 hg
    have s4 : w1.heap.size ≤ w4.heap.size := by have := hg4.size; simp at this; omega
    have own' := own.alloc (.cells #[.int .i64 x] 3)
    have B4' := below_step B4 (.cells #[.int .i64 x] 3)
    have R4 := hr4.alloc (.cells #[.int .i64 x] 3)
    have HL : Hid ((l ++ [x]).length ≤ 7) := by show _ ≤ _; simp; omega
    have HB : Hid (∀ y ∈ l ++ [x], -9223372036854775808 ≤ y ∧ y ≤ 9223372036854775807) := fun y hy => by
      rcases List.mem_append.1 hy with hy | hy
      · have := hq2 y hy; omega
      · simp at hy; subst hy; exact hx
    clear own B4 hr4 hg4 B3 hr3 hx hq2
    go_wp2_with (at_builtin; refine wpList_append_lies _ rfl _ _ _ rfl w1.heap.size 3 i0 (.int .i64 0) 1 8 Try.underlying22 hi hz0 hz1 hz2 rfl (by omega) _ l.length (l.map (.int .i64)) rfl own' ⟨w4.heap.size, 0, none⟩ 1 1 [.int .i64 x] rfl rfl (World.news_of_block (heap_alloc_new w4 _)) (by simp [Value.oneCell']) (by omega) (by unfold maxLen; omega) (by omega) (by simp; omega) _ rfl ?_; intro b2 cap2 w5 own5 hg5 hat hlt5)
    have R5 := R4.growNew hr1 hg5 (own_row_ge own')
    have BB : Below w.heap.size w w5 := below_grows B4' hg5 (fun k hk => by have := own_row_ge own' k hk; have := hb1s; omega)
    have OWN : w5.ownsRow w1.heap.size 3 1 (.slice (some ⟨b2, 0, none⟩) (l ++ [x]).length cap2) (l ++ [x]).length ((l ++ [x]).map (.int .i64)) := by simpa using own5
    have s5 : w1.heap.size ≤ w5.heap.size := by have := hg5.size; simp at this; omega
    rw [show l.length + 1 = (l ++ [x]).length by simp]
    clear own' B4' R4 own5 hg5 hat
    generalize l ++ [x] = l5 at *
    refine (num_in (fun n => 0 ≤ n ∧ n ≤ 6) g _ u w5.heap.size 5 5 _ (R5.alloc _) (by omega) (by omega) (by omega) (by have := R5.lt; omega) (new_ints_in w5 _ [6, 6, 6, 3, 0] 3 (by simp))).mono ?_
    rintro e w7 ⟨_, rfl, ⟨n, rfl, n0, n1⟩, hg7, hr7⟩
    replace OWN := own_grown (OWN.alloc _) hg7 gl1
    replace BB := below_of_grown (below_step BB _) hg7 hg
    have s7 : w1.heap.size ≤ w7.heap.size := by have := hg7.size; simp at this; omega
    clear hg7
    have OWNh := Lib.hid OWN
    have BBh := Lib.hid BB
    clear OWN BB
    go_wp2_with fail
    refine (pick_any g _ u 64 _ hr7 (by omega)).mono ?_
    rintro e w8 ⟨q, rfl, q0, q1, _, hg8, hr8⟩
    have q2 := q1 (by decide)
    have OWN := own_grown OWNh.out hg8 gl1
    have BB := below_of_grown BBh.out hg8 hg
    have s8 := hg8.size
    clear OWNh BBh hg8 q1 hr7
    obtain ⟨n', rfl⟩ := Int.eq_ofNat_of_zero_le n0
    obtain ⟨q', rfl⟩ := Int.eq_ofNat_of_zero_le q0
    go_wp2_with fail
    refine (l4Vals_any n' q' _ (by omega) (by omega)).mono ?_
    rintro e w9 ⟨y, rfl, o9, hb9⟩
    have I9 := (Ints.of_own OWN).below hb9
    have B9 := below_two BB hb9
    have hb9l := Bools.of_own (l := l4v n' q') o9
    have hl9 : (l4v n' q').length ≤ 6 := by rw [l4v_len]; omega
    go_wp2_with fail
    exact bodyPost_ret (v := .tuple #[.slice (some ⟨b2, 0, none⟩) l5.length cap2, y]) (by simp [results, Try.results20, go_sem]) rfl ⟨_, rfl, ⟨b2, cap2, l5, y, _, rfl, I9, HL.out, HB.out, hb9l, hl9⟩, B9⟩
  · have hzq : (k == 0) = false := by simpa using hz
    have HL : Hid (l.length ≤ 7) := by show _ ≤ _; omega
    have HB : Hid (∀ y ∈ l, -9223372036854775808 ≤ y ∧ y ≤ 9223372036854775807) := fun y hy => by have := hq2 y hy; omega
    have OWN := own
    have BB := B3
    clear own B3 hq2
    go_wp2_with fail
    refine (num_in (fun n => 0 ≤ n ∧ n ≤ 6) g _ u w3.heap.size 5 5 _ (hr3.alloc _) (by omega) (by omega) (by omega) (by have := hr3.lt; omega) (new_ints_in w3 _ [6, 6, 6, 3, 0] 3 (by simp))).mono ?_
    rintro e w7 ⟨_, rfl, ⟨n, rfl, n0, n1⟩, hg7, hr7⟩
    replace OWN := own_grown (OWN.alloc _) hg7 gl1
    replace BB := below_of_grown (below_step BB _) hg7 hg
    have s7 : w1.heap.size ≤ w7.heap.size := by have := hg7.size; simp at this; omega
    clear hg7
    have OWNh := Lib.hid OWN
    have BBh := Lib.hid BB
    clear OWN BB
    go_wp2_with fail
    refine (pick_any g _ u 64 _ hr7 (by omega)).mono ?_
    rintro e w8 ⟨q, rfl, q0, q1, _, hg8, hr8⟩
    have q2 := q1 (by decide)
    have OWN := own_grown OWNh.out hg8 gl1
    have BB := below_of_grown BBh.out hg8 hg
    have s8 := hg8.size
    clear OWNh BBh hg8 q1 hr7
    obtain ⟨n', rfl⟩ := Int.eq_ofNat_of_zero_le n0
    obtain ⟨q', rfl⟩ := Int.eq_ofNat_of_zero_le q0
    go_wp2_with fail
    refine (l4Vals_any n' q' _ (by omega) (by omega)).mono ?_
    rintro e w9 ⟨y, rfl, o9, hb9⟩
    have I9 := (Ints.of_own OWN).below hb9
    have B9 := below_two BB hb9
    have hb9l := Bools.of_own (l := l4v n' q') o9
    have hl9 : (l4v n' q').length ≤ 6 := by rw [l4v_len]; omega
    go_wp2_with fail
    exact bodyPost_ret (v := .tuple #[.slice (some ⟨b, 0, none⟩) l.length cap, y]) (by simp [results, Try.results20, go_sem]) rfl ⟨_, rfl, ⟨b, cap, l, y, _, rfl, I9, HL.out, HB.out, hb9l, hl9⟩, B9⟩
end Go.Proofs.Ytjobbokjebhjgaa
