/- wpInts of the laws, and DrawEnvAll. The conditions stand in each statement. -/
import Derived.Test.YtklbdfjmhbiheaaDoorDg
import Derived.Test.YtklbdfjmhbiheaaDoorIg
import Derived.Deep.DeepCutAuto
namespace Go.Proofs.YtklbdfjmhbiheaaDoor
open Go.RowKit

set_option maxHeartbeats 2000000 in
theorem wpInts_any (v v' : Value) (l l' : List Int) (w : World) (h : Ints w v l) (h' : Ints w v' l') :
    Calls Tryd.prog 24 #[v, v'] w (DrewRet (.bool (decide (l = l'))) w) := by
  have hl := h.len
  have hl' := h'.len
  obtain ⟨a, cap, rfl, hr⟩ := h
  obtain ⟨a', cap', rfl, hr'⟩ := h'
  by_cases hn : l.length = l'.length
  · obtain ⟨r1, r2, r3⟩ := hr
    obtain ⟨r1', r2', r3'⟩ := hr'
    rw [← hn] at r1' r3'
    have D : Hid (∀ i, i < l.length → (l.getD i 0 ≠ l'.getD i 0 → decide (l = l') = false)) := fun i _ h => by simpa using list_ne_at 0 h
    have E : Hid ((∀ i, i < l.length → l.getD i 0 = l'.getD i 0) → decide (l = l') = true) := fun h => by simpa using list_eq_of 0 hn h
    rw [← hn]
    generalize decide (l = l') = z at *
    clear hn hl'
    go_enter Tryd.func24, Tryd.ntmps24
    go_wp2
    go_loopw [5] (fun i wr => ∃ k : Nat, k ≤ l.length ∧ i = .int .i64 k ∧ Hid (∀ i, i < k → l.getD i 0 = l'.getD i 0) ∧ ∃ m, wr = w.drewN m) (fun i _ => l.length - (intOf i).toNat)
    case atStart => exact ⟨0, Nat.zero_le _, rfl, fun i hi => absurd hi (by omega), 0, rfl⟩
    case round =>
      obtain ⟨k, hk, rfl, hsame, m, rfl⟩ := hrel
      by_cases hlt : k < l.length
      · rcases r3 with r3 | ⟨b, off, rfl, r4, r5⟩
        · omega
        rcases r3' with r3' | ⟨b', off', rfl, r4', r5'⟩
        · omega
        have r6 : w.cell? ⟨b, off + k, none⟩ = some (.int .i64 (l.getD k 0)) := r5 k hlt
        have r6' : w.cell? ⟨b', off' + k, none⟩ = some (.int .i64 (l'.getD k 0)) := r5' k hlt
        have S : Hid (l.getD k 0 = l'.getD k 0 → ∀ i, i < k + 1 → l.getD i 0 = l'.getD i 0) := fun h i hi => by
          rcases Nat.lt_or_ge i k with h1 | h1
          · exact hsame.out i h1
          · rw [show i = k by omega]; exact h
        have D2 : Hid (l.getD k 0 ≠ l'.getD k 0 → z = false) := D.out k hlt
        clear r5 r5' hsame D E
        generalize l.getD k 0 = x at *
        generalize l'.getD k 0 = y at *
        have hk0 : (0 : Int) ≤ (k : Int) := by omega
        have hk1 : (k : Int) < (l.length : Int) := by omega
        by_cases hxy : x = y
        · subst hxy
          have S2 : Hid (∀ i, i < k + 1 → l.getD i 0 = l'.getD i 0) := S.out rfl
          clear S D2
          go_wp2_with fail
          go_quiet (fail)
          go_wp2_with fail
          exact ⟨⟨k + 1, by omega, by go_num, S2, _, rfl⟩, by simp [intOf]; omega⟩
        · have hz := D2.out hxy
          subst hz
          have hx1 : (x != y) = true := by simpa using hxy
          clear S D2 hxy
          go_wp2_with fail
          go_quiet (fail)
          rename_i nq
          go_wp2_with fail
          go_ret
          exact ⟨rfl, m + nq, by simp [World.drewN, Nat.add_assoc]⟩
      · obtain rfl : k = l.length := by omega
        have hz := E.out hsame.out
        subst hz
        clear D E hsame
        go_wp2_with fail
        go_ret
        exact ⟨rfl, _, rfl⟩
  · have hz : decide (l = l') = false := by simpa using fun e => hn (by rw [e])
    rw [hz]
    have hn' : ((l.length : Int) != (l'.length : Int)) = true := by simp; omega
    clear hr hr' hz
    go_enter Tryd.func24, Tryd.ntmps24
    go_wp2
    go_ret
    exact ⟨rfl, 0, rfl⟩

theorem manyV_low (ds : List Dc) : 0 ≤ manyV ds ∧ manyV ds ≤ 256 := by
  by_cases h : DeclsOk ds
  · rw [manyV_ok h]; have := many_le h; generalize 2 ^ suf ds 0 = p at *; omega
  · unfold manyV
    have : declV ds = false := by cases hd : declV ds; rfl; exact absurd (declV_true.1 hd) h
    rw [this]; simp
/-- declarations and a number, drawn -/
def IsDK (w : World) (x : Value) : Prop := ∃ (s : Value) (ds : List Dc) (k : Int), x = .tuple #[s, .int .i64 k] ∧ Decls w s ds ∧ ds.length ≤ 6

set_option maxHeartbeats 4000000 in
theorem drawEnvAll_any (v : Value) (w : World) (h : BytesIn w v) :
    Calls Tryd.prog 21 #[v] w (GaveIn IsDK w) := by
  go_enter Tryd.func21, Tryd.ntmps21
  go_wp2_with fail
  refine (l12Open_any v w h).mono ?_
  rintro e w1 ⟨g, rv, rfl, hg, hB, R0⟩
  have g1 := R0.lt
  go_wp2_with fail
  refine (l2Decls_any g 0 rv w1 R0 (by omega)).mono ?_
  rintro e w2 ⟨b, cap, ds, rfl, own, hd, hg2, R2⟩
  have g2 := R2.lt
  have D2 := own.decls hd.named
  have B2 := below_of_grown hB hg2 hg
  obtain ⟨d1, d4, _⟩ := hd
  clear R0 own hg2 hB
  go_wp2_with fail
  refine (l2Spoil_any g (0 + 16) rv _ ds w2 R2 (by omega) D2 d1 d4).mono ?_
  rintro e w3 ⟨b', cap', ds', rfl, own', N', l6, hg3, R3⟩
  have B3 := below_of_grown B2 hg3 hg
  clear R2 D2 hg3 B2
  obtain ⟨hm0, hm1⟩ := manyV_low ds'
  have EM := Lib.hid (fun w' (hd : Decls w' (.slice (some ⟨b', 0, none⟩) ds'.length cap') ds') => envMany_spec _ ds' w' hd)
  generalize manyV ds' = M at *
  go_wp2_with fail
  refine (pick_any g (0 + 16 + 3) rv 256 w3 R3 (by omega)).mono ?_
  rintro e w4 ⟨k4, rfl, _, _, _, hg4, R4⟩
  have own4 := own_grown own' hg4 g2
  have B4 := below_of_grown B3 hg4 hg
  clear own' hg4 R3 B3
  go_wp2_with fail
  refine (pick_any g (0 + 16 + 3 + 1) rv 256 w4 R4 (by omega)).mono ?_
  rintro e w5 ⟨k5, rfl, _, _, _, hg5, R5⟩
  have own5 := own_grown own4 hg5 g2
  have B5 := below_of_grown B4 hg5 hg
  clear own4 hg5 R4 B4
  have D5 : Decls w5 _ ds' := OwnD.decls own5 N'
  go_wp2_with fail
  refine (EM.out _ D5).mono ?_; rintro e w6 ⟨rfl, n6, hw6⟩
  have hb := drew_back hw6
  have own6 := own_keepE own5 hb
  have R6 := R5.below hb
  have B6 := below_two B5 hb
  have D6 := D5.below hb
  clear own5 R5 B5 D5 hw6 hb
  go_wp2_with fail
  refine (EM.out _ D6).mono ?_; rintro e w7 ⟨rfl, n7, hw7⟩
  have hb := drew_back hw7
  have own7 := own_keepE own6 hb
  have R7 := R6.below hb
  have B7 := below_two B6 hb
  clear own6 R6 B6 D6 hw7 hb EM
  have g7 := R7.lt
  obtain ⟨M1, hM1⟩ : ∃ M1, M1 = M - 1 := ⟨_, rfl⟩
  have R8 := R7.alloc (.cells #[.int .i64 0, .int .i64 1, .int .i64 k4, .int .i64 k5, .int .i64 (M - 1), .int .i64 M, .int .i64 (-1), .int .i64 9223372036854775807] 3)
  have own8 := own7.alloc (.cells #[.int .i64 0, .int .i64 1, .int .i64 k4, .int .i64 k5, .int .i64 (M - 1), .int .i64 M, .int .i64 (-1), .int .i64 9223372036854775807] 3)
  have B8 := below_step B7 (.cells #[.int .i64 0, .int .i64 1, .int .i64 k4, .int .i64 k5, .int .i64 (M - 1), .int .i64 M, .int .i64 (-1), .int .i64 9223372036854775807] 3)
  have NN := Lib.hid (num_any g _ rv w7.heap.size 8 8 _ R8 (by omega) (by omega) (by omega) (by omega) (new_ints w7 [0, 1, k4, k5, M - 1, M, -1, 9223372036854775807] 3))
  clear R7 own7 B7
  go_wp2_with fail
  refine NN.out.mono ?_; rintro e w9 ⟨x, rfl, ⟨y, rfl⟩, hg9, R9⟩
  have own9 := own_grown own8 hg9 g2
  have B9 := below_of_grown B8 hg9 hg
  have DD : Decls w9 _ ds' := OwnD.decls own9 N'
  clear NN own8 own9 B8 R8 hg9 R9
  go_wp2_with fail
  exact bodyPost_ret (v := .tuple #[.slice (some ⟨b', 0, none⟩) ds'.length cap', .int .i64 y]) (by simp [results, Tryd.results21, go_sem]) rfl ⟨_, rfl, ⟨_, ds', y, rfl, DD, l6⟩, B9⟩
end Go.Proofs.YtklbdfjmhbiheaaDoor
