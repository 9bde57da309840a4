/- Reading a number, as the reference does. The conditions stand in each statement. -/
import Derived.Test.YtjobbokjebhjgaaDoorYb
import Derived.WalkKit
import Derived.Deep.DeepCutAuto
namespace Go.Proofs.YtjobbokjebhjgaaDoor
open Go.RowKit

def NumRet (s : List UInt8) (w : World) (e : Ending) (w' : World) : Prop := ∃ (n : Int) (ok : Bool), e = .returned (.tuple #[.int .i64 n, .bool ok]) ∧ -1000000000000000000 ≤ n ∧ n ≤ 1000000000000000000 ∧ NumIs s n ok ∧ w = w'
theorem ext_list (s : ByteArray) (a b : Nat) : (s.extract a b).data.toList = (s.data.toList.drop a).take (b - a) := by
  simp [ByteArray.data_extract, Array.toList_extract, List.extract_eq_take_drop]
theorem size_list (s : ByteArray) : s.data.toList.length = s.size := rfl
theorem at_list {s : ByteArray} {k : Nat} (h : k < s.size) : s.data.toList[k]? = some (s[k]'h) := by
  rw [List.getElem?_eq_getElem (by simpa using h)]; rfl
theorem byte_eq {a b : UInt8} (h : a.toNat = b.toNat) : a = b := UInt8.toNat.inj h
theorem not_dec {l : List UInt8} {k : Nat} {b : UInt8} (hb : l[k]? = some b) (h : b.toNat < 48 ∨ 57 < b.toNat) (m : Nat) : l ≠ Lib.decDigits m := by
  rintro rfl
  have := dec_digits m b (List.mem_of_getElem? hb)
  omega

set_option maxHeartbeats 8000000 in
theorem l12Num_any (s : ByteArray) (w : World) (hs : s.size ≤ 1000000) :
    Calls Tryd.prog 18 #[.string s] w (NumRet s.data.toList w) := by
  by_cases h0 : s.size = 0
  · have hn : s.data.toList = [] := List.length_eq_zero_iff.1 (by rw [size_list]; exact h0)
    go_enter Tryd.func18, Tryd.ntmps18
    go_wp2
    go_ret2
    exact ⟨0, false, rfl, by omega, by omega, numIs_nil hn, rfl⟩
  have hp : 0 < s.size := by omega
  have hpi : (0 : Int) < (s.size : Int) := by omega
  go_enter Tryd.func18, Tryd.ntmps18
  go_upto_if 15 with fail
  go_cut [0, 4] (fun s0 s4 wx => ∃ (t : ByteArray) (neg : Bool), s0 = .string t ∧ s4 = .bool neg ∧ t.size ≤ 1000000 ∧ Hid (s.data.toList = if neg then 45 :: t.data.toList else t.data.toList) ∧ Hid (neg = false → t.data.toList.head? ≠ some 45) ∧ wx = w)
  case first =>
    by_cases hb : (s[0]'hp).toNat = 45
    · have hb1 : (((s[0]'hp).toNat : Int) == 45) = true := by rw [hb]; rfl
      have hb2 : s[0]'hp = 45 := byte_eq hb
      go_wp2_with fail
      go_meet
      refine ⟨_, true, rfl, by rw [hb1], ?_, ?_, ?_, rfl⟩
      · rw [← size_list, ext_list]; simp; omega
      · show _ = _
        rw [if_pos rfl, ext_list, ← size_list]
        have := at_list hp
        cases hc : s.data.toList with
        | nil => rw [hc] at this; cases this
        | cons a r => rw [hc] at this; simp at this; subst this; rw [hb2]; simp
      · intro h; cases h
    · have hb1 : (((s[0]'hp).toNat : Int) == 45) = false := by rw [beq_eq_false_iff_ne]; exact fun e => hb (by omega)
      go_wp2_with fail
      go_meet
      refine ⟨_, false, rfl, by rw [hb1], hs, by show _ = _; simp, ?_, rfl⟩
      intro _ h
      have := at_list hp
      rw [← List.head?_eq_getElem?, h] at this
      injection this with this
      exact hb (by rw [← this]; rfl)
  case rest =>
    obtain ⟨t, neg, rfl, rfl, ht, H1, H2, rfl⟩ := hcut
    have bad : Hid ((∀ m : Nat, m ≠ 0 → m ≤ 700 → t.data.toList ≠ Lib.decDigits m) → ∀ n, NumIs s.data.toList n false) := fun h n => numIs_of H1.out H2.out fun m a b c => absurd c (h m a b)
    have good : Hid (∀ m : Nat, (∀ m' : Nat, t.data.toList = Lib.decDigits m' → m = m') → NumIs s.data.toList (if neg = true then -(m : Int) else m) true) := fun m h => numIs_of H1.out H2.out fun m' _ _ e => ⟨rfl, by rw [h m' e]⟩
    clear H1 H2
    by_cases ht0 : t.size = 0
    · have hn : t.data.toList = [] := List.length_eq_zero_iff.1 (by rw [size_list]; exact ht0)
      go_wp2_with fail
      go_ret2
      exact ⟨0, false, rfl, by omega, by omega, bad.out (fun m _ _ e => dec_ne m (e ▸ hn)) 0, rfl⟩
    by_cases ht17 : 17 < t.size
    · have ht1 : (17 : Int) < (t.size : Int) := by omega
      go_wp2_with fail
      go_ret2
      exact ⟨0, false, rfl, by omega, by omega, bad.out (fun m _ hm e => by have := dec_len (n := m) (by omega); rw [← e, size_list] at this; omega) 0, rfl⟩
    have ht1 : ¬ (17 : Int) < (t.size : Int) := by omega
    have hp1 : 0 < t.size := by omega
    have zero : Hid ((t[0]'hp1).toNat = 48 → ∀ m : Nat, m ≠ 0 → m ≤ 700 → t.data.toList ≠ Lib.decDigits m) := fun h m hm _ e => dec_head m hm (by
      rw [← e, List.head?_eq_getElem?, at_list hp1]; congr 1; exact byte_eq h)
    have hcase : (((t[0]'hp1).toNat : Int) == 48) = false ∨ ((((t[0]'hp1).toNat : Int) == 48) = true ∧ ¬ (1 : Int) < (t.size : Int) ∧ neg = false) ∨ ((((t[0]'hp1).toNat : Int) == 48) = true ∧ 1 < t.size) ∨ ((((t[0]'hp1).toNat : Int) == 48) = true ∧ neg = true ∧ ¬ 1 < t.size) := by
      by_cases h : (t[0]'hp1).toNat = 48
      · have e : (((t[0]'hp1).toNat : Int) == 48) = true := by rw [h]; rfl
        rw [e]
        by_cases h1 : 1 < t.size
        · exact .inr (.inr (.inl ⟨rfl, h1⟩))
        · cases neg
          · exact .inr (.inl ⟨rfl, by omega, rfl⟩)
          · exact .inr (.inr (.inr ⟨rfl, rfl, h1⟩))
      · exact .inl (by rw [beq_eq_false_iff_ne]; exact fun e => h (by omega))
    have z48 : (((t[0]'hp1).toNat : Int) == 48) = true → (t[0]'hp1).toNat = 48 := fun h => by have := eq_of_beq h; omega
    rcases hcase with hz | ⟨hz, hz2, rfl⟩ | ⟨hz, hz2⟩ | ⟨hz, rfl, hz2⟩
    rotate_left 2
    · have B := Lib.hid (bad.out (zero.out (z48 hz)) 0)
      clear bad zero z48 good
      have hz3 : (1 : Int) < (t.size : Int) := by omega
      go_wp2_with fail
      go_ret2
      exact ⟨0, false, rfl, by omega, by omega, B.out, rfl⟩
    · have B := Lib.hid (bad.out (zero.out (z48 hz)) 0)
      clear bad zero z48 good
      have hz3 : ¬ (1 : Int) < (t.size : Int) := by omega
      go_wp2_with fail
      go_ret2
      exact ⟨0, false, rfl, by omega, by omega, B.out, rfl⟩
    all_goals
      clear zero z48
      go_wp2_with fail
      go_loop [5, 6] (fun n i => ∃ k m : Nat, k ≤ t.size ∧ i = .int .i64 k ∧ n = .int .i64 m ∧ m ≤ 100000000000000000 ∧ Hid (Lib.decFrom 0 (t.data.toList.take k) = some m)) (fun _ i => t.size - (intOf i).toNat)
      case atStart => exact ⟨0, 0, Nat.zero_le _, rfl, rfl, by omega, rfl⟩
      case round =>
        obtain ⟨k, m, hk, rfl, rfl, hm, hd⟩ := hrel
        by_cases hlt : k < t.size
        · have hlt2 : (k : Int) < (t.size : Int) := by omega
          have hb := at_list hlt
          by_cases h1 : (t[k]'hlt).toNat < 48
          · have B := Lib.hid (bad.out (fun m _ _ => not_dec hb (.inl h1) m) 0)
            have h1' : decide (((t[k]'hlt).toNat : Int) < 48) = true := by simp; omega
            clear bad hd hb
            go_wp2_with fail
            go_ret2
            exact ⟨0, false, rfl, by omega, by omega, B.out, rfl⟩
          by_cases h2 : 57 < (t[k]'hlt).toNat
          · have B := Lib.hid (bad.out (fun m _ _ => not_dec hb (.inr h2) m) 0)
            have h1' : decide (((t[k]'hlt).toNat : Int) < 48) = false := by simp; omega
            have h2' : decide ((57 : Int) < ((t[k]'hlt).toNat : Int)) = true := by simp; omega
            clear bad hd hb
            go_wp2_with fail
            go_ret2
            exact ⟨0, false, rfl, by omega, by omega, B.out, rfl⟩
          have h1' : decide (((t[k]'hlt).toNat : Int) < 48) = false := by simp; omega
          have h2' : decide ((57 : Int) < ((t[k]'hlt).toNat : Int)) = false := by simp; omega
          have h3' : (48 : Int) ≤ ((t[k]'hlt).toNat : Int) := by omega
          have h4' : ((t[k]'hlt).toNat : Int) ≤ 57 := by omega
          have D : Hid (Lib.decFrom 0 (t.data.toList.take (k + 1)) = some (m * 10 + ((t[k]'hlt).toNat - 48))) := Lib.decFrom_take _ _ _ _ _ _ hd.out hb (by unfold Lib.digitVal; rw [if_pos ⟨by omega, by omega⟩])
          have hm2 : m * 10 + ((t[k]'hlt).toNat - 48) ≤ 100000000000000000 := by
            have := Lib.decFrom_take_lt D.out (by omega)
            omega
          clear hd hb bad
          go_wp2_with fail
          exact ⟨⟨k + 1, m * 10 + ((t[k]'hlt).toNat - 48), by omega, by go_num, by rw [show ((m * 10 + ((t[k]'hlt).toNat - 48) : Nat) : Int) = (m : Int) * 10 + (((t[k]'hlt).toNat : Int) - 48) by omega], hm2, D⟩, by simp [intOf]; omega⟩
        · obtain rfl : k = t.size := by omega
          have N : Hid (∀ m' : Nat, t.data.toList = Lib.decDigits m' → m = m') := fun m' e => by
            have h := hd.out
            rw [List.take_of_length_le (by rw [size_list]; exact Nat.le_refl _), e, dec_from] at h
            injection h with h; exact h.symm
          clear bad hd
          first
            | (cases neg
               · go_wp2_with fail
                 go_ret2
                 exact ⟨m, true, rfl, by omega, by omega, (by have := good.out m N.out; simpa using this), rfl⟩
               · go_wp2_with fail
                 go_ret2
                 exact ⟨-(m : Int), true, rfl, by omega, by omega, (by have := good.out m N.out; simpa using this), rfl⟩
               done)
            | (go_wp2_with fail
               go_ret2
               exact ⟨m, true, rfl, by omega, by omega, (by have := good.out m N.out; simpa using this), rfl⟩)
end Go.Proofs.YtjobbokjebhjgaaDoor
