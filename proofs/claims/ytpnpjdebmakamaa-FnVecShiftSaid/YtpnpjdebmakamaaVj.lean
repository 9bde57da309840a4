/- What the program's VecRead comes to: for every text. -/
import Derived.Test.YtpnpjdebmakamaaVi
namespace Go.Proofs.Ytpnpjdebmakamaa
open Go.RowKit Go.Lib

theorem Blk.iterAt {w : World} {g : Nat} {x y : Value} {t : TypeId} (h : Blk w g x y t) {k : Nat} {s : ByteArray} {pos : Nat} (hne : g ≠ k) : Blk (w.iterAt k s pos) g x y t := by
  unfold Blk at *; simp only [World.iterAt]; rw [Array.getElem?_setIfInBounds_ne (by omega)]; exact h
theorem set_iter {w : World} {g K : Nat} {o : Obj} {u v : Value} (h : w.heap[K]? = some o) (hne : K ≠ g) : ((w.setCell ⟨g, 0, none⟩ u).setCell ⟨g, 1, none⟩ v).heap[K]? = some o := by
  rw [Below.heap_setCell _ _ _ _ hne, Below.heap_setCell _ _ _ _ hne]; exact h
theorem rune_ne {s : ByteArray} {k x : Nat} (h : k < s.size) (hx : x < 128) (hne : bt s k ≠ x) : (((Utf8.decode s k).1 : Int) == (x : Int)) = false := by
  rw [bt_at s k h] at hne
  simp only [beq_eq_false_iff_ne, ne_eq]
  by_cases ha : (s[k]'h).toNat < 128
  · rw [decode_ascii s k h ha]; simpa using by omega
  · have := (decode_high s k h (by omega)).1; omega
theorem rune_eq {s : ByteArray} {k x : Nat} (h : k < s.size) (hx : x < 128) (he : bt s k = x) : Utf8.decode s k = (x, 1) := by
  rw [bt_at s k h] at he
  rw [decode_ascii s k h (by omega), he]

set_option maxHeartbeats 1000000 in
theorem vecRead_impl (s : ByteArray) (w : World) (hs : s.size ≤ 9223372036854775807) :
    Calls Try.prog 25 #[.string s] w fun e w' => e = .returned (.tuple #[.agg #[.int .i64 (rdW s), .int .i64 (rdN s)], .bool (rdOk s)]) ∧ Below w.heap.size w w' := by
  go_enter Try.func25, Try.ntmps25
  go_wp2_with fail
  go_loopw [5] (fun _ wr => ∃ k : Nat, k ≤ s.size ∧ wr.heap[w.heap.size + 2]? = some (.stringIter s k) ∧ Blk wr w.heap.size (.int .i64 0) (.int .i64 0) 26 ∧ Blk wr (w.heap.size + 1) (.int .i64 ((k - 1 : Nat) : Int)) (.int .i64 (rvk s (k - 1))) 26 ∧ Below w.heap.size w wr ∧ Hid (Pre s k)) (fun _ wr => s.size - wr.iterPos (w.heap.size + 2))
  case atStart =>
    have hsz : ((w.alloc (.cells #[.int .i64 0, .int .i64 0] 26)).alloc (.cells #[.int .i64 0, .int .i64 0] 26)).heap.size = w.heap.size + 2 := by simp
    refine ⟨0, Nat.zero_le _, ?_, ((blk_new _ _ _ _).alloc _).alloc _, (blk_new1 _ _ _ _ _).alloc _, below_step (below_step (below_self_alloc _ _) _) _, fun i hi => by omega⟩
    rw [← hsz]; exact World.iter_heap _ _ _
  case round =>
    obtain ⟨k, kl, hit, hr, ha, hB, hpre⟩ := hrel
    have rz := hr.lt
    have az := ha.lt
    have hpos : wr.iterPos (w.heap.size + 2) = k := by simp [World.iterPos, hit]
    by_cases hlt : k < s.size
    · by_cases hk : k = 0
      · subst hk
        by_cases hg : bt s 0 = 35
        · have hd := rune_eq (x := 35) hlt (by decide) hg
          have hnx : ∀ ty, (Instr.next (.pointer (some ⟨w.heap.size + 2, 0, none⟩)) true ty).run Try.prog wr = .ok (.tuple #[.bool true, .int .i64 (0 : Nat), .int .i32 35]) (wr.iterAt (w.heap.size + 2) s (0 + 1)) := fun ty => by
            rw [run_next_any_at (P := Try.prog) wr (w.heap.size + 2) s 0 ty hit hlt, hd]; rfl
          have hpre' : Pre s (0 + 1) := fun i hi => by rw [if_pos (by omega)]; exact hg
          clear hd hg
          go_wp2_with fail
          refine ⟨⟨0 + 1, by omega, iterAt_heap wr _ s 0 _ hit, hr.iterAt (by omega), ha.iterAt (by omega), below_iterAt hB (by omega) _ _, hpre'⟩, ?_⟩
          simp [World.iterPos, iterAt_heap wr _ s 0 _ hit, hit]; omega
        · have hb := rune_ne (x := 35) hlt (by decide) hg
          have e0 := rdOk_bad0 hg
          have e1 : rdW s = 0 := by simp [rdW, e0]
          have e2 : rdN s = 0 := by simp [rdN, e0]
          have E0 := Lib.hid e0
          have E1 := Lib.hid e1
          have E2 := Lib.hid e2
          clear e0 e1 e2
          clear hg
          have hit2 := fun p => iterAt_heap wr (w.heap.size + 2) s 0 p hit
          have hnx := fun ty => run_next_any_at (P := Try.prog) wr (w.heap.size + 2) s 0 ty hit hlt
          clear hit
          generalize hW : wr.iterAt (w.heap.size + 2) s (0 + (Utf8.decode s 0).snd) = W2 at *
          have hr2 : Blk W2 w.heap.size (.int .i64 0) (.int .i64 0) 26 := by rw [← hW]; exact hr.iterAt (by omega)
          have hB2 : Below w.heap.size w W2 := by rw [← hW]; exact below_iterAt hB (by omega) _ _
          clear hW
          obtain ⟨r0, r1, rz⟩ := hr2.cells
          obtain ⟨rf0, rf1⟩ := hr2.frozen
          go_wp2_with fail
          refine bodyPost_ret (v := .tuple #[.agg #[.int .i64 0, .int .i64 0], .bool false]) (by simp [results, Try.results25, go_sem, r0, r1]) rfl ?_
          rw [E0.out, E1.out, E2.out]
          exact ⟨rfl, below_set2 hB2 (by simp) _ _⟩
      · have hk1 : 1 ≤ k := by omega
        have hk0 : ((k : Int) == 0) = false := by simp; omega
        by_cases h4 : k ≤ 4
        · have hkk : k - 1 + 1 = k := by omega
          have hb1 := Pre.bound (j := k - 1) (s := s) (by rw [hkk]; exact hpre.out)
          have hrv : rvk s (k - 1 + 1) = 2 * rvk s (k - 1) + ((bt s (k - 1 + 1) : Int) - 48) := rfl
          rw [hkk] at hrv
          have t4 : two (k - 1) ≤ 16 := two_le (n := 4) (by omega)
          clear hk
          by_cases hg48 : bt s k = 48
          · have hg := hg48
            have hd := rune_eq (x := 48) hlt (by decide) hg
            have hnx : ∀ ty, (Instr.next (.pointer (some ⟨w.heap.size + 2, 0, none⟩)) true ty).run Try.prog wr = .ok (.tuple #[.bool true, .int .i64 k, .int .i32 48]) (wr.iterAt (w.heap.size + 2) s (k + 1)) := fun ty => by
              rw [run_next_any_at (P := Try.prog) wr (w.heap.size + 2) s k ty hit hlt, hd]; rfl
            have hpre' : Pre s (k + 1) := fun i hi => by
              by_cases h : i < k
              · exact hpre.out i h
              · rw [if_neg (by omega)]
                have : i = k := by omega
                subst this; exact ⟨by omega, by omega⟩
            have hval : rvk s k = 2 * rvk s (k - 1) := by rw [hrv, hg]; omega
            have HV := Lib.hid hval
            have ha2 := ha.iterAt (k := w.heap.size + 2) (s := s) (pos := k + 1) (by omega)
            have hr2 := hr.iterAt (k := w.heap.size + 2) (s := s) (pos := k + 1) (by omega)
            have hB2 := below_iterAt hB (k := w.heap.size + 2) (by omega) s (k + 1)
            have hit2 := iterAt_heap wr (w.heap.size + 2) s k (k + 1) hit
            have hck : ((k - 1 : Nat) : Int) + 1 = k := by omega
            have HC := Lib.hid hck
            clear hck
            clear hd hg hg48 hrv hval hit
            generalize hW : wr.iterAt (w.heap.size + 2) s (k + 1) = W2 at *
            obtain ⟨a0, a1, az2⟩ := ha2.cells
            obtain ⟨af0, af1⟩ := ha2.frozen
            clear hW
            go_wp2_with fail
            have hit3 := fun u v => set_iter (u := u) (v := v) (g := w.heap.size + 1) hit2 (by omega)
            refine ⟨⟨k + 1, by omega, hit3 _ _, (hr2.set_other (by simp)).set_other (by simp), ?_, (hB2.setCell (p := ⟨w.heap.size + 1, 0, none⟩) (by simp) _).setCell (p := ⟨w.heap.size + 1, 1, none⟩) (by simp) _, hpre'⟩, ?_⟩
            · rw [show k + 1 - 1 = k from by omega, HV.out]
              have := (ha2.set0 (.int .i64 (((k - 1 : Nat) : Int) + 1))).set1 (.int .i64 (2 * rvk s (k - 1)))
              rw [HC.out] at this ⊢
              exact this
            · rw [hpos]; simp only [World.iterPos, hit3]; omega
          · skip
            by_cases hg49 : bt s k = 49
            · have hg := hg49
              have hd := rune_eq (x := 49) hlt (by decide) hg
              have hnx : ∀ ty, (Instr.next (.pointer (some ⟨w.heap.size + 2, 0, none⟩)) true ty).run Try.prog wr = .ok (.tuple #[.bool true, .int .i64 k, .int .i32 49]) (wr.iterAt (w.heap.size + 2) s (k + 1)) := fun ty => by
                rw [run_next_any_at (P := Try.prog) wr (w.heap.size + 2) s k ty hit hlt, hd]; rfl
              have hpre' : Pre s (k + 1) := fun i hi => by
                by_cases h : i < k
                · exact hpre.out i h
                · rw [if_neg (by omega)]
                  have : i = k := by omega
                  subst this; exact ⟨by omega, by omega⟩
              have hval : rvk s k = 2 * rvk s (k - 1) + 1 := by rw [hrv, hg]; omega
              have HV := Lib.hid hval
              have ha2 := ha.iterAt (k := w.heap.size + 2) (s := s) (pos := k + 1) (by omega)
              have hr2 := hr.iterAt (k := w.heap.size + 2) (s := s) (pos := k + 1) (by omega)
              have hB2 := below_iterAt hB (k := w.heap.size + 2) (by omega) s (k + 1)
              have hit2 := iterAt_heap wr (w.heap.size + 2) s k (k + 1) hit
              have hck : ((k - 1 : Nat) : Int) + 1 = k := by omega
              have HC := Lib.hid hck
              clear hck
              clear hd hg hg49 hrv hval hit
              generalize hW : wr.iterAt (w.heap.size + 2) s (k + 1) = W2 at *
              obtain ⟨a0, a1, az2⟩ := ha2.cells
              obtain ⟨af0, af1⟩ := ha2.frozen
              clear hW
              go_wp2_with fail
              have hit3 := fun u v => set_iter (u := u) (v := v) (g := w.heap.size + 1) hit2 (by omega)
              refine ⟨⟨k + 1, by omega, hit3 _ _, (hr2.set_other (by simp)).set_other (by simp), ?_, (hB2.setCell (p := ⟨w.heap.size + 1, 0, none⟩) (by simp) _).setCell (p := ⟨w.heap.size + 1, 1, none⟩) (by simp) _, hpre'⟩, ?_⟩
              · rw [show k + 1 - 1 = k from by omega, HV.out]
                have := (ha2.set0 (.int .i64 (((k - 1 : Nat) : Int) + 1))).set1 (.int .i64 (2 * rvk s (k - 1) + 1))
                rw [HC.out] at this ⊢
                exact this
              · rw [hpos]; simp only [World.iterPos, hit3]; omega
            · have hb8 : (((Utf8.decode s k).1 : Int) == 48) = false := rune_ne (x := 48) hlt (by decide) hg48
              have hb9 : (((Utf8.decode s k).1 : Int) == 49) = false := rune_ne (x := 49) hlt (by decide) hg49
              have hn8 : ¬ ((Utf8.decode s k).1 : Int) = 48 := by simpa using hb8
              have hn9 : ¬ ((Utf8.decode s k).1 : Int) = 49 := by simpa using hb9
              have e0 := rdOk_bad hlt hk1 (fun h => by omega)
              have e1 : rdW s = 0 := by simp [rdW, e0]
              have e2 : rdN s = 0 := by simp [rdN, e0]
              have E0 := Lib.hid e0
              have E1 := Lib.hid e1
              have E2 := Lib.hid e2
              clear e0 e1 e2
              clear hg48 hg49 hrv
              have hit2 := fun p => iterAt_heap wr (w.heap.size + 2) s k p hit
              have hnx := fun ty => run_next_any_at (P := Try.prog) wr (w.heap.size + 2) s k ty hit hlt
              clear hit
              generalize hW : wr.iterAt (w.heap.size + 2) s (k + (Utf8.decode s k).snd) = W2 at *
              have hr2 : Blk W2 w.heap.size (.int .i64 0) (.int .i64 0) 26 := by rw [← hW]; exact hr.iterAt (by omega)
              have hB2 : Below w.heap.size w W2 := by rw [← hW]; exact below_iterAt hB (by omega) _ _
              clear hW
              obtain ⟨r0, r1, rz⟩ := hr2.cells
              obtain ⟨rf0, rf1⟩ := hr2.frozen
              go_wp2_with fail
              refine bodyPost_ret (v := .tuple #[.agg #[.int .i64 0, .int .i64 0], .bool false]) (by simp [results, Try.results25, go_sem, r0, r1]) rfl ?_
              rw [E0.out, E1.out, E2.out]
              exact ⟨rfl, below_set2 hB2 (by simp) _ _⟩
        · have e0 := rdOk_bad hlt hk1 (fun h => by omega)
          have e1 : rdW s = 0 := by simp [rdW, e0]
          have e2 : rdN s = 0 := by simp [rdN, e0]
          have E0 := Lib.hid e0
          have E1 := Lib.hid e1
          have E2 := Lib.hid e2
          clear e0 e1 e2
          clear hk
          have hit2 := fun p => iterAt_heap wr (w.heap.size + 2) s k p hit
          have hnx := fun ty => run_next_any_at (P := Try.prog) wr (w.heap.size + 2) s k ty hit hlt
          clear hit
          generalize hW : wr.iterAt (w.heap.size + 2) s (k + (Utf8.decode s k).snd) = W2 at *
          have hr2 : Blk W2 w.heap.size (.int .i64 0) (.int .i64 0) 26 := by rw [← hW]; exact hr.iterAt (by omega)
          have hB2 : Below w.heap.size w W2 := by rw [← hW]; exact below_iterAt hB (by omega) _ _
          clear hW
          obtain ⟨r0, r1, rz⟩ := hr2.cells
          obtain ⟨rf0, rf1⟩ := hr2.frozen
          go_wp2_with fail
          refine bodyPost_ret (v := .tuple #[.agg #[.int .i64 0, .int .i64 0], .bool false]) (by simp [results, Try.results25, go_sem, r0, r1]) rfl ?_
          rw [E0.out, E1.out, E2.out]
          exact ⟨rfl, below_set2 hB2 (by simp) _ _⟩
    · have hnx := fun ty => run_next_end_at (P := Try.prog) wr (w.heap.size + 2) s k ty hit hlt
      obtain ⟨a0, a1, az2⟩ := ha.cells
      have hk : k = s.size := by omega
      subst hk
      clear hit
      go_wp2_with fail
      refine (vecOk_impl _ _ _).mono ?_; rintro e w3 ⟨rfl, hb3⟩
      have hr3 := hr.keep hb3
      have ha3 := ha.keep hb3
      obtain ⟨r0, r1, rz3⟩ := hr3.cells
      obtain ⟨rf0, rf1⟩ := hr3.frozen
      obtain ⟨b0, b1, bz3⟩ := ha3.cells
      clear a0 a1
      have hB3 := below_two hB hb3
      by_cases h2 : 2 ≤ s.size
      · have e0 := rdOk_pre hpre.out h2
        have e1 : rdW s = ((s.size - 1 : Nat) : Int) := by simp [rdW, e0]; omega
        have e2 : rdN s = rvk s (s.size - 1) := by simp [rdN, e0]
        have hb1 := Pre.bound (j := s.size - 1) (s := s) (by rw [show s.size - 1 + 1 = s.size from by omega]; exact hpre.out)
        have hv : vokB ((s.size - 1 : Nat) : Int) (rvk s (s.size - 1)) = true := by
          simp only [vokB, decide_eq_true_eq, Int.toNat_natCast]; omega
        have E0 := Lib.hid e0
        have E1 := Lib.hid e1
        have E2 := Lib.hid e2
        clear e0 e1 e2
        go_wp2_with fail
        refine bodyPost_ret (v := .tuple #[.agg #[.int .i64 ((s.size - 1 : Nat) : Int), .int .i64 (rvk s (s.size - 1))], .bool true]) (by simp [results, Try.results25, go_sem, r0, r1]) rfl ?_
        rw [E0.out, E1.out, E2.out]
        exact ⟨rfl, below_set2 hB3 (by simp) _ _⟩
      · have e0 := rdOk_short (s := s) (by omega)
        have e1 : rdW s = 0 := by simp [rdW, e0]
        have e2 : rdN s = 0 := by simp [rdN, e0]
        have hv : vokB ((s.size - 1 : Nat) : Int) (rvk s (s.size - 1)) = false := by
          rw [show s.size - 1 = 0 from by omega]; rfl
        have E0 := Lib.hid e0
        have E1 := Lib.hid e1
        have E2 := Lib.hid e2
        clear e0 e1 e2
        go_wp2_with fail
        refine bodyPost_ret (v := .tuple #[.agg #[.int .i64 0, .int .i64 0], .bool false]) (by simp [results, Try.results25, go_sem, r0, r1]) rfl ?_
        rw [E0.out, E1.out, E2.out]
        exact ⟨rfl, below_set2 hB3 (by simp) _ _⟩
end Go.Proofs.Ytpnpjdebmakamaa
