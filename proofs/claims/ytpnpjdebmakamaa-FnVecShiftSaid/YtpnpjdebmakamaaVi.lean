/- What VecRead comes to: for every text. -/
import Derived.Test.YtpnpjdebmakamaaVh
import Derived.Lib.OthersKept
import Derived.StillTailTactics
import Derived.RegionTactic
namespace Go.Proofs.Ytpnpjdebmakamaa
open Go.RowKit Go.Lib

theorem Blk.set1 {w : World} {g : Nat} {x y : Value} {t : TypeId} (h : Blk w g x y t) (z : Value) : Blk (w.setCell ⟨g, 1, none⟩ z) g x z t := by
  unfold Blk at *; simp [World.setCell, Array.getElem?_modify, h]
theorem Blk.set0 {w : World} {g : Nat} {x y : Value} {t : TypeId} (h : Blk w g x y t) (z : Value) : Blk (w.setCell ⟨g, 0, none⟩ z) g z y t := by
  unfold Blk at *; simp [World.setCell, Array.getElem?_modify, h]
theorem Blk.set_other {w : World} {g : Nat} {x y : Value} {t : TypeId} (h : Blk w g x y t) {p : Addr} {z : Value} (hne : g ≠ p.block) : Blk (w.setCell p z) g x y t := by
  unfold Blk at *; rw [Below.heap_setCell _ _ _ _ hne]; exact h
/-- byte i of a text -/
def bt (s : ByteArray) (i : Nat) : Nat := (s.data.toList.getD i 0).toNat
theorem bt_at (s : ByteArray) (i : Nat) (h : i < s.size) : bt s i = (s[i]'h).toNat := by
  unfold bt
  have : i < s.data.toList.length := by simpa using h
  rw [List.getD_eq_getElem?_getD, List.getElem?_eq_getElem this]
  rfl
/-- the number of the digits 1 to k -/
def rvk (s : ByteArray) : Nat → Int
  | 0 => 0
  | j + 1 => 2 * rvk s j + ((bt s (j + 1) : Int) - 48)
/-- the first k bytes are as a text of a bit vector begins -/
def Pre (s : ByteArray) (k : Nat) : Prop := ∀ i, i < k → if i = 0 then bt s 0 = 35 else i ≤ 4 ∧ (bt s i = 48 ∨ bt s i = 49)
theorem Pre.bound {s : ByteArray} : ∀ {j : Nat}, Pre s (j + 1) → 0 ≤ rvk s j ∧ rvk s j < two j ∧ j ≤ 4
  | 0, _ => by simp [rvk, two]
  | j + 1, h => by
    have h1 := Pre.bound (j := j) (fun i hi => h i (by omega))
    have h2 := h (j + 1) (by omega)
    rw [if_neg (by omega)] at h2
    rw [two_succ]
    simp only [rvk]
    omega
def rdOk (s : ByteArray) : Bool := decide (2 ≤ s.size ∧ s.size ≤ 5 ∧ bt s 0 = 35 ∧ ∀ i, i < s.size → 1 ≤ i → bt s i = 48 ∨ bt s i = 49)
def rdW (s : ByteArray) : Int := if rdOk s = true then (s.size : Int) - 1 else 0
def rdN (s : ByteArray) : Int := if rdOk s = true then rvk s (s.size - 1) else 0
theorem rdOk_pre {s : ByteArray} (h : Pre s s.size) (h2 : 2 ≤ s.size) : rdOk s = true := by
  have hb : s.size ≤ 5 := by
    have := h (s.size - 1) (by omega)
    rw [if_neg (by omega)] at this; omega
  simp only [rdOk, decide_eq_true_eq]
  refine ⟨h2, hb, by simpa using h 0 (by omega), fun i hi h1 => ?_⟩
  have := h i hi
  rw [if_neg (by omega)] at this
  exact this.2
theorem rdOk_short {s : ByteArray} (h2 : s.size < 2) : rdOk s = false := by simp [rdOk]; omega
theorem rdOk_bad0 {s : ByteArray} (h : bt s 0 ≠ 35) : rdOk s = false := by simp [rdOk, h]
theorem rdOk_bad {s : ByteArray} {k : Nat} (hk : k < s.size) (h1 : 1 ≤ k) (h : ¬ (k ≤ 4 ∧ (bt s k = 48 ∨ bt s k = 49))) : rdOk s = false := by
  cases hr : rdOk s
  · rfl
  · simp only [rdOk, decide_eq_true_eq] at hr
    obtain ⟨a, b, c, d⟩ := hr
    exact absurd ⟨by omega, d k hk h1⟩ h

set_option maxHeartbeats 1000000 in
theorem vecRead_spec (s : ByteArray) (w : World) (hs : s.size ≤ 9223372036854775807) :
    Calls Try.prog 24 #[.string s] w fun e w' => e = .returned (.tuple #[.agg #[.int .i64 (rdW s), .int .i64 (rdN s)], .bool (rdOk s)]) ∧ Below w.heap.size w w' := by
  by_cases h2 : s.size < 2
  · have e0 := rdOk_short h2
    have e1 : rdW s = 0 := by simp [rdW, e0]
    have e2 : rdN s = 0 := by simp [rdN, e0]
    rw [e0, e1, e2]; clear e0 e1 e2
    go_enter Try.func24, Try.ntmps24
    go_wp2_with fail
    exact bodyPost_ret (v := .tuple #[.agg #[.int .i64 0, .int .i64 0], .bool false]) (by simp [results, Try.results24, go_sem]) rfl ⟨rfl, below_self_alloc _ _⟩
  · by_cases h5 : 5 < s.size
    · have e0 : rdOk s = false := by simp [rdOk]; omega
      have e1 : rdW s = 0 := by simp [rdW, e0]
      have e2 : rdN s = 0 := by simp [rdN, e0]
      rw [e0, e1, e2]; clear e0 e1 e2
      go_enter Try.func24, Try.ntmps24
      go_wp2_with fail
      exact bodyPost_ret (v := .tuple #[.agg #[.int .i64 0, .int .i64 0], .bool false]) (by simp [results, Try.results24, go_sem]) rfl ⟨rfl, below_self_alloc _ _⟩
    · have hx := bt_at s 0 (by omega)
      have d2 : decide ((s.size : Int) < 2) = false := by simp; omega
      have d5 : decide ((5 : Int) < (s.size : Int)) = false := by simp; omega
      have hp : (0 : Int) < (s.size : Int) := by omega
      by_cases h0 : bt s 0 = 35
      · have hy : (((s[0]'(by omega)).toNat : Int) != 35) = false := by rw [← hx, h0]; rfl
        have H0 := Lib.hid h0
        clear h0 hx
        go_enter Try.func24, Try.ntmps24
        go_wp2_with fail
        go_loopw [5] (fun i wr => ∃ k : Nat, 1 ≤ k ∧ k ≤ s.size ∧ i = .int .i64 k ∧ Blk wr w.heap.size (.int .i64 0) (.int .i64 0) 26 ∧ Blk wr (w.heap.size + 1) (.int .i64 ((s.size : Int) - 1)) (.int .i64 (rvk s (k - 1))) 26 ∧ Below w.heap.size w wr ∧ Hid (Pre s k)) (fun i _ => s.size - (intOf i).toNat)
        case atStart => exact ⟨1, by omega, by omega, rfl, (blk_new _ _ _ _).alloc _, blk_new1 _ _ _ _ _, below_step (below_self_alloc _ _) _, fun i hi => by rw [if_pos (by omega)]; exact H0.out⟩
        case round =>
          obtain ⟨k, k1, kl, rfl, hr, ha, hB, hpre⟩ := hrel
          obtain ⟨r0, r1, rz⟩ := hr.cells
          obtain ⟨rf0, rf1⟩ := hr.frozen
          obtain ⟨a0, a1, az⟩ := ha.cells
          obtain ⟨af0, af1⟩ := ha.frozen
          clear hy hp d2 d5
          by_cases hlt : k < s.size
          · have hx := bt_at s k hlt
            have hlt' : (k : Int) < (s.size : Int) := by omega
            by_cases hg : bt s k = 48 ∨ bt s k = 49
            · have hpre' : Pre s (k + 1) := fun i hi => by
                by_cases h : i < k
                · exact hpre.out i h
                · rw [if_neg (by omega)]
                  have : i = k := by omega
                  subst this; exact ⟨by omega, hg⟩
              have hk1 : k - 1 + 1 = k := by omega
              have hb1 := Pre.bound (j := k - 1) (s := s) (by rw [hk1]; exact hpre.out)
              have hrv : rvk s (k - 1 + 1) = 2 * rvk s (k - 1) + ((bt s (k - 1 + 1) : Int) - 48) := rfl
              rw [hk1] at hrv
              have t4 : two (k - 1) ≤ 16 := two_le (n := 4) (by omega)
              rcases hg with hg | hg
              · have hy : (((s[k]'hlt).toNat : Int)) = 48 := by rw [← hx, hg]; rfl
                go_wp2_with fail
                go_still_tail 10, (by kernel_rfl)
                go_wp2_with fail
                refine ⟨⟨k + 1, by omega, by omega, by go_num, (hr.set_other (by simp)).drew, ?_, (hB.setCell (p := ⟨w.heap.size + 1, 1, none⟩) (by simp) _).drew, hpre'⟩, by simp [intOf]; omega⟩
                have hval : rvk s k = rvk s (k - 1) * 2 := by rw [hrv, hg]; omega
                rw [show k + 1 - 1 = k from by omega, hval]
                exact (ha.set1 _).drew
              · have hy : (((s[k]'hlt).toNat : Int)) = 49 := by rw [← hx, hg]; rfl
                go_wp2_with fail
                go_still_tail 10, (by kernel_rfl)
                go_wp2_with fail
                refine ⟨⟨k + 1, by omega, by omega, by go_num, (hr.set_other (by simp)).drew, ?_, (hB.setCell (p := ⟨w.heap.size + 1, 1, none⟩) (by simp) _).drew, hpre'⟩, by simp [intOf]; omega⟩
                have hval : rvk s k = rvk s (k - 1) * 2 + 1 := by rw [hrv, hg]; omega
                rw [show k + 1 - 1 = k from by omega, hval]
                exact (ha.set1 _).drew
            · have e0 := rdOk_bad hlt k1 (fun h => hg h.2)
              have e1 : rdW s = 0 := by simp [rdW, e0]
              have e2 : rdN s = 0 := by simp [rdN, e0]
              have E0 := Lib.hid e0
              have E1 := Lib.hid e1
              have E2 := Lib.hid e2
              clear e0 e1 e2
              have hy : (((s[k]'hlt).toNat : Int) != 48) = true := by simp; omega
              have hz : (((s[k]'hlt).toNat : Int) != 49) = true := by simp; omega
              clear hx hg
              go_wp2_with fail
              refine bodyPost_ret (v := .tuple #[.agg #[.int .i64 0, .int .i64 0], .bool false]) (by simp [results, Try.results24, go_sem, r0, r1]) rfl ?_
              rw [E0.out, E1.out, E2.out]
              exact ⟨rfl, below_set2 hB (by simp) _ _⟩
          · have hk : k = s.size := by omega
            subst hk
            have e0 := rdOk_pre hpre.out (by omega)
            have e1 : rdW s = (s.size : Int) - 1 := by simp [rdW, e0]
            have e2 : rdN s = rvk s (s.size - 1) := by simp [rdN, e0]
            have E0 := Lib.hid e0
            have E1 := Lib.hid e1
            have E2 := Lib.hid e2
            clear e0 e1 e2
            go_wp2_with fail
            refine bodyPost_ret (v := .tuple #[.agg #[.int .i64 ((s.size : Int) - 1), .int .i64 (rvk s (s.size - 1))], .bool true]) (by simp [results, Try.results24, go_sem, r0, r1]) rfl ?_
            rw [E0.out, E1.out, E2.out]
            exact ⟨rfl, below_set2 hB (by simp) _ _⟩
      · have e0 := rdOk_bad0 h0
        have e1 : rdW s = 0 := by simp [rdW, e0]
        have e2 : rdN s = 0 := by simp [rdN, e0]
        rw [e0, e1, e2]; clear e0 e1 e2
        have hy : (((s[0]'(by omega)).toNat : Int) != 35) = true := by simp; omega
        go_enter Try.func24, Try.ntmps24
        go_wp2_with fail
        exact bodyPost_ret (v := .tuple #[.agg #[.int .i64 0, .int .i64 0], .bool false]) (by simp [results, Try.results24, go_sem]) rfl ⟨rfl, below_self_alloc _ _⟩
end Go.Proofs.Ytpnpjdebmakamaa
