/- Names: l2Name and l2Find of the reference. The conditions stand in each statement. -/
import Derived.Test.YtfkanemjedndgaaGreatDoorEq
import Derived.Test.YtfkanemjedndgaaGreatDoorEo
namespace Go.Proofs.YtfkanemjedndgaaGreatDoor
open Go.RowKit

theorem byte_at (s : ByteArray) (i : Nat) (h : i < s.size) : s.data.toList[i]? = some (s[i]'h) := by
  have : i < s.data.toList.length := by simpa using h
  rw [List.getElem?_eq_getElem this]; rfl
theorem nameV_bad {s : ByteArray} {i : Nat} (h : i < s.size) (hb : lower (s[i]'h) = false) : nameV s = false := by
  rw [nameV_false]
  intro hok
  have := hok.1 (s[i]'h) (List.mem_of_getElem? (byte_at s i h))
  rw [hb] at this; cases this
theorem nameV_all {s : ByteArray} (h : ∀ i (hi : i < s.size), lower (s[i]'hi) = true) (h1 : 1 ≤ s.size) (h2 : s.size ≤ 4) (h3 : s ≠ trueB) : nameV s = true := by
  rw [nameV_true]
  refine ⟨fun b hb => ?_, h1, h2, h3⟩
  obtain ⟨i, hi⟩ := List.mem_iff_getElem?.1 hb
  have hlt : i < s.size := by
    have := (List.getElem?_eq_some_iff.1 hi).1; simpa using this
  have := byte_at s i hlt
  rw [hi] at this
  cases this
  exact h i hlt

theorem true_list : trueB.toList = [116, 114, 117, 101] := by rw [ByteArray.toList_eq]; rfl
theorem true_eq {s : ByteArray} (h : s = trueB) : (s.toList == [116, 114, 117, 101]) = true := by rw [h, true_list]; rfl
theorem true_ne {s : ByteArray} (h : ¬ s = trueB) : (s.toList == [116, 114, 117, 101]) = false := by rw [← true_list]; exact str_ne h

set_option maxHeartbeats 1000000 in
theorem l2Name_any (s : ByteArray) (w : World) (hs : s.size ≤ 9223372036854775807) :
    Calls Tryz.prog 40 #[.string s] w fun e w' => e = .returned (.bool (nameV s)) ∧ w = w' := by
  obtain ⟨z, hz⟩ : ∃ z, z = nameV s := ⟨_, rfl⟩
  rw [← hz]
  have HZ := Lib.hid hz
  clear hz
  go_enter Tryz.func40, Tryz.ntmps40
  go_wp2_with fail
  go_loopw [3] (fun i wr => ∃ k : Nat, k ≤ s.size ∧ i = .int .i64 k ∧ Hid (∀ i (hi : i < s.size), i < k → lower (s[i]'hi) = true) ∧ wr = w) (fun i _ => s.size - (intOf i).toNat)
  case atStart => exact ⟨0, Nat.zero_le _, rfl, fun _ _ h => absurd h (Nat.not_lt_zero _), rfl⟩
  case round =>
    obtain ⟨k, hk, rfl, hpre, hw⟩ := hrel
    subst hw
    by_cases hlt : k < s.size
    · have hlt2 : (k : Int) < (s.size : Int) := by omega
      by_cases h1 : (s[k]'hlt).toNat < 97
      · have hz : z = false := by rw [HZ.out]; exact nameV_bad hlt (by unfold lower; simp; omega)
        subst hz
        go_wp2_with fail
        go_ret
        exact ⟨rfl, rfl⟩
      · by_cases h2 : 122 < (s[k]'hlt).toNat
        · have hz : z = false := by rw [HZ.out]; exact nameV_bad hlt (by unfold lower; simp; omega)
          subst hz
          have h1' : decide (((s[k]'hlt).toNat : Int) < 97) = false := by simp; omega
          have h2' : (122 : Int) < ((s[k]'hlt).toNat : Int) := by omega
          go_wp2_with fail
          go_ret
          exact ⟨rfl, rfl⟩
        · have h1' : decide (((s[k]'hlt).toNat : Int) < 97) = false := by simp; omega
          have h2' : decide ((122 : Int) < ((s[k]'hlt).toNat : Int)) = false := by simp; omega
          have hpre2 : Hid (∀ i (hi : i < s.size), i < k + 1 → lower (s[i]'hi) = true) := fun i hi hik => by
            by_cases e : i = k
            · subst e; unfold lower; simp; omega
            · exact hpre.out i hi (by omega)
          clear hpre
          go_wp2_with fail
          exact ⟨⟨k + 1, by omega, by go_num, hpre2, trivial⟩, by simp [intOf]; omega⟩
    · obtain rfl : k = s.size := by omega
      by_cases h1 : 1 ≤ s.size
      · by_cases h4 : s.size ≤ 4
        · by_cases ht : s = trueB
          · have hz : z = false := by rw [HZ.out, nameV_false]; intro hok; exact hok.2.2.2 ht
            subst hz
            have ht2 := true_eq ht
            clear HZ hpre ht
            go_wp2_with fail
            go_ret
            exact ⟨rfl, rfl⟩
          · have hz : z = true := by rw [HZ.out]; exact nameV_all (fun i hi => hpre.out i hi hi) h1 h4 ht
            subst hz
            have ht2 := true_ne ht
            clear HZ hpre ht
            go_wp2_with fail
            go_ret
            exact ⟨rfl, rfl⟩
        · have hz : z = false := by rw [HZ.out, nameV_false]; intro hok; exact absurd hok.2.2.1 h4
          subst hz
          clear HZ hpre
          go_wp2_with fail
          go_ret
          exact ⟨rfl, rfl⟩
      · have hz : z = false := by rw [HZ.out, nameV_false]; intro hok; exact absurd hok.2.1 h1
        subst hz
        clear HZ hpre
        go_wp2_with fail
        go_ret
        exact ⟨rfl, rfl⟩

/-- where a name stands among the first n, or -1 -/
def findV (ds : List Dc) (s : ByteArray) : Nat → Int
  | 0 => -1
  | k + 1 => if 0 ≤ findV ds s k then findV ds s k else if (ds.getD k dz).1 = s then k else -1
theorem findV_none {ds : List Dc} {s : ByteArray} {k : Nat} (h : ∀ j, j < k → (ds.getD j dz).1 ≠ s) : findV ds s k = -1 := by
  induction k with
  | zero => rfl
  | succ k ih =>
    have := ih (fun j hj => h j (by omega))
    simp only [findV]
    rw [this, if_neg (by omega), if_neg (h k (by omega))]
theorem findV_at {ds : List Dc} {s : ByteArray} {k n : Nat} (h : ∀ j, j < k → (ds.getD j dz).1 ≠ s) (hk : (ds.getD k dz).1 = s) (hn : k < n) : findV ds s n = k := by
  induction n with
  | zero => omega
  | succ n ih =>
    rcases Nat.lt_or_ge k n with h1 | h1
    · have := ih h1
      simp only [findV]
      rw [this, if_pos (by omega)]
    · obtain rfl : k = n := by omega
      simp only [findV]
      rw [findV_none h, if_neg (by omega), if_pos hk]
theorem findV_spec (ds : List Dc) (s : ByteArray) (n : Nat) : (findV ds s n = -1 ∧ ∀ j, j < n → (ds.getD j dz).1 ≠ s) ∨ (0 ≤ findV ds s n ∧ findV ds s n < n ∧ ∃ j, j < n ∧ (ds.getD j dz).1 = s) := by
  induction n with
  | zero => exact .inl ⟨rfl, fun j hj => absurd hj (Nat.not_lt_zero _)⟩
  | succ n ih =>
    simp only [findV]
    rcases ih with ⟨h1, h2⟩ | ⟨h1, h2, j, h3, h4⟩
    · rw [h1, if_neg (by omega)]
      by_cases e : (ds.getD n dz).1 = s
      · rw [if_pos e]; exact .inr ⟨by omega, by omega, n, by omega, e⟩
      · rw [if_neg e]
        refine .inl ⟨rfl, fun j hj => ?_⟩
        by_cases ej : j = n
        · rw [ej]; exact e
        · exact h2 j (by omega)
    · rw [if_pos h1]; exact .inr ⟨h1, by omega, j, by omega, h4⟩
theorem fresh_of {ds : List Dc} {k : Nat} : (findV ds (ds.getD k dz).1 k = -1 ∧ Fresh ds k) ∨ (0 ≤ findV ds (ds.getD k dz).1 k ∧ ¬ Fresh ds k) := by
  rcases findV_spec ds (ds.getD k dz).1 k with ⟨h1, h2⟩ | ⟨h1, _, j, h3, h4⟩
  · exact .inl ⟨h1, h2⟩
  · exact .inr ⟨h1, fun hf => hf j h3 h4⟩
/-- the first n of the declarations -/
def DeclsN (w : World) (v : Value) (ds : List Dc) (n : Nat) : Prop := ∃ a cap, v = .slice a n cap ∧ RowS w a n cap 2 (dcell ds)
theorem RowS.take {w : World} {a : Option Addr} {n k cap s : Nat} {f : Nat → Nat → Value} (h : RowS w a n cap s f) (hk : k ≤ n) : RowS w a k cap s f := by
  obtain ⟨h1, h2, h3⟩ := h
  refine ⟨by omega, h2, ?_⟩
  rcases h3 with h3 | ⟨b, off, ha, hl, hc⟩
  · exact .inl (by omega)
  · exact .inr ⟨b, off, ha, hl, fun i hi j hj => hc i (by omega) j hj⟩

set_option maxHeartbeats 1000000 in
theorem l2Find_any (v : Value) (ds : List Dc) (n : Nat) (s : ByteArray) (w : World) (h : DeclsN w v ds n) (hn : n ≤ 9223372036854775807) :
    Calls Tryz.prog 41 #[v, .string s] w fun e w' => e = .returned (.int .i64 (findV ds s n)) ∧ w = w' := by
  obtain ⟨a, cap, rfl, hr⟩ := h
  obtain ⟨z, hz⟩ : ∃ z, z = findV ds s n := ⟨_, rfl⟩
  rw [← hz]
  have HZ := Lib.hid hz
  clear hz
  go_enter Tryz.func41, Tryz.ntmps41
  go_wp2_with fail
  go_loopw [5] (fun i wr => ∃ k : Nat, k ≤ n ∧ i = .int .i64 k ∧ Hid (∀ j, j < k → (ds.getD j dz).1 ≠ s) ∧ wr = w) (fun i _ => n - (intOf i).toNat)
  case atStart => exact ⟨0, Nat.zero_le _, rfl, fun _ h => absurd h (Nat.not_lt_zero _), rfl⟩
  case round =>
    obtain ⟨k, hk, rfl, hpre, hw⟩ := hrel
    subst hw
    by_cases hlt : k < n
    · obtain ⟨b, off, rfl, _, c0, c1⟩ := hr.duo hlt
      obtain ⟨x, hx⟩ : ∃ x, x = ds.getD k dz := ⟨_, rfl⟩
      rw [← hx] at c0 c1
      have HX := Lib.hid hx
      have hlt2 : (k : Int) < (n : Int) := by omega
      clear hx hr
      by_cases hs : x.1 = s
      · obtain rfl : z = k := by rw [HZ.out]; exact findV_at hpre.out (by rw [← HX.out]; exact hs) hlt
        rw [hs] at c0
        clear hpre HZ
        go_wp2_with fail
        go_ret
        exact ⟨rfl, rfl⟩
      · have hpre2 : Hid (∀ j, j < k + 1 → (ds.getD j dz).1 ≠ s) := fun j hj => by
          by_cases e : j = k
          · subst e; rw [← HX.out]; exact hs
          · exact hpre.out j (by omega)
        have hs2 := str_ne hs
        clear hpre hs
        go_wp2_with fail
        exact ⟨⟨k + 1, by omega, by go_num, hpre2, trivial⟩, by simp [intOf]; omega⟩
    · obtain rfl : k = n := by omega
      obtain rfl : z = -1 := by rw [HZ.out]; exact findV_none hpre.out
      clear hpre hr HZ
      go_wp2_with fail
      go_ret
      exact ⟨rfl, rfl⟩
theorem declV_long {ds : List Dc} (h : 4 < ds.length) : declV ds = false := by rw [declV_false]; intro hd; have := hd.1; omega
theorem declV_bad {ds : List Dc} {k : Nat} (hk : k < ds.length) (h : ¬ OkAt ds k) : declV ds = false := by rw [declV_false]; intro hd; exact h (hd.2.1 k hk)
theorem declV_end {ds : List Dc} (h4 : ds.length ≤ 4) (h : ∀ k, k < ds.length → OkAt ds k) : declV ds = decide (bitsTo ds ds.length ≤ 8) := by
  by_cases hb : bitsTo ds ds.length ≤ 8
  · rw [decide_eq_true hb, declV_true]; exact ⟨h4, h, hb⟩
  · rw [decide_eq_false hb, declV_false]; intro hd; exact hb hd.2.2

theorem drew_of {P : Program} {f : FuncId} {args : Array Value} {w : World} {v : Value} (h : Calls P f args w fun e w' => e = .returned v ∧ w = w') : Calls P f args w (DrewRet v w) :=
  h.mono fun _ _ ⟨he, hw⟩ => ⟨he, 0, hw.symm⟩
set_option linter.unusedSimpArgs false in
set_option maxHeartbeats 4000000 in
theorem declOk_spec (v : Value) (ds : List Dc) (w : World) (h : Decls w v ds) :
    Calls Tryz.prog 24 #[v] w fun e w' => e = .returned (.bool (declV ds)) ∧ ∃ n, w' = w.drewN n := by
  have hl := h.len
  have HN := Lib.hid h.named
  obtain ⟨a, cap, rfl, hr, _⟩ := h
  have hcap : ds.length ≤ cap := hr.1
  obtain ⟨z, hz⟩ : ∃ z, z = declV ds := ⟨_, rfl⟩
  rw [← hz]
  have HZ := Lib.hid hz
  clear hz
  by_cases h4 : 4 < ds.length
  · obtain rfl : z = false := by rw [HZ.out]; exact declV_long h4
    clear HZ HN hr
    go_enter Tryz.func24, Tryz.ntmps24
    go_wp2_with fail
    go_ret
    exact ⟨rfl, 0, rfl⟩
  · go_enter Tryz.func24, Tryz.ntmps24
    go_wp2_with fail
    go_loopw [4, 3] (fun i q wr => ∃ (k : Nat) (b : Int), k ≤ ds.length ∧ i = .int .i64 k ∧ q = .int .i64 b ∧ 0 ≤ b ∧ b ≤ 16 ∧ Hid (b = bitsTo ds k) ∧ Hid (∀ i, i < k → OkAt ds i) ∧ ∃ n, wr = w.drewN n) (fun i _ _ => ds.length - (intOf i).toNat)
    case atStart => exact ⟨0, 0, Nat.zero_le _, rfl, rfl, by omega, by omega, rfl, fun _ h => absurd h (Nat.not_lt_zero _), 0, rfl⟩
    case round =>
      obtain ⟨k, b, hk, rfl, rfl, b0, b1, hbit, hpre, m, rfl⟩ := hrel
      by_cases hlt : k < ds.length
      · obtain ⟨bb, off, rfl, _, c0, c1⟩ := hr.duo hlt
        have hlt2 : (k : Int) < (ds.length : Int) := by omega
        have hk0 : (0 : Int) ≤ (k : Int) := by omega
        have hkc : (k : Int) ≤ (cap : Int) := by omega
        obtain ⟨x, hx⟩ : ∃ x, x = ds.getD k dz := ⟨_, rfl⟩
        have hsz := HN.out k hlt
        rw [← hx] at c0 c1 hsz
        have HX := Lib.hid hx
        have C1 := fun j => drew_of (l2Name_any x.1 (w.drewN j) hsz)
        have F1 := fun j => drew_of (l2Find_any _ ds k x.1 (w.drewN j) ⟨some ⟨bb, off, none⟩, cap, rfl, hr.take (by omega)⟩ (by omega))
        cases hn : nameV x.1
        · rw [hn] at C1
          obtain rfl : z = false := by
            rw [HZ.out]; refine declV_bad hlt fun ho => ?_
            have := nameV_true.2 ho.1
            rw [← HX.out, hn] at this; cases this
          have C := Lib.hid C1
          clear C1 F1 HZ hpre hbit hr hx
          go_wp2_with fail
          go_quiet ((go_at_call 40; exact drewRet_at C.out _ _))
          rename_i nq
          go_wp2_with fail
          go_ret
          exact ⟨rfl, m + nq, by simp [World.drewN, Nat.add_assoc]⟩
        · rw [hn] at C1
          have C := Lib.hid C1
          have hnm := nameV_true.1 hn
          clear C1
          by_cases h1 : x.2 < 1
          · clear F1
            obtain rfl : z = false := by
              rw [HZ.out]; exact declV_bad hlt (by rw [OkAt, ← HX.out]; intro ho; have := ho.2.1; omega)
            clear HZ hpre hbit hr hx
            go_wp2_with fail
            go_quiet ((first | (go_at_call 40; exact drewRet_at C.out _ _) | (go_at_call 41; exact drewRet_at F.out _ _)))
            rename_i nq
            go_wp2_with fail
            go_ret
            exact ⟨rfl, m + nq, by simp [World.drewN, Nat.add_assoc]⟩
          · have h1' : decide (x.2 < 1) = false := by simpa using h1
            by_cases h2 : 4 < x.2
            · clear F1
              obtain rfl : z = false := by
                rw [HZ.out]; exact declV_bad hlt (by rw [OkAt, ← HX.out]; intro ho; have := ho.2.2.1; omega)
              clear HZ hpre hbit hr hx
              go_wp2_with fail
              go_quiet ((first | (go_at_call 40; exact drewRet_at C.out _ _) | (go_at_call 41; exact drewRet_at F.out _ _)))
              rename_i nq
              go_wp2_with fail
              go_ret
              exact ⟨rfl, m + nq, by simp [World.drewN, Nat.add_assoc]⟩
            · have h2' : decide (4 < x.2) = false := by simpa using h2
              obtain ⟨r, hfr⟩ : ∃ r, r = findV ds x.1 k := ⟨_, rfl⟩
              have hfv := fresh_of (ds := ds) (k := k)
              rw [← hx, ← hfr] at hfv
              rw [← hfr] at F1
              have F := Lib.hid F1
              clear F1 hfr
              rcases hfv with ⟨rfl, hfresh⟩ | ⟨hr0, hfresh⟩
              · have hok : OkAt ds k := by rw [OkAt, ← hx]; exact ⟨hnm, by omega, by omega, hfresh⟩
                have hpre2 : Hid (∀ i, i < k + 1 → OkAt ds i) := fun i hi => by
                  by_cases e : i = k
                  · rw [e]; exact hok
                  · exact hpre.out i (by omega)
                have hbb := bitsTo_bound hpre.out
                rw [← hbit.out] at hbb
                have hbit2 : Hid (b + x.2 = bitsTo ds (k + 1)) := by
                  show b + x.2 = bitsTo ds k + _
                  rw [← hbit.out, ← hx]
                have hb3 : b ≤ 12 := by omega
                clear hpre hbit hr hx hok hnm hfresh hbb hn
                go_wp2_with fail
                go_quiet ((first | (go_at_call 40; exact drewRet_at C.out _ _) | (go_at_call 41; exact drewRet_at F.out _ _)))
                rename_i nq
                go_wp2_with fail
                exact ⟨⟨k + 1, b + x.2, by omega, by go_num, rfl, by omega, by omega, hbit2, hpre2, m + nq, by simp [World.drewN, Nat.add_assoc]⟩, by simp [intOf]; omega⟩
              · have h3' : (0 : Int) ≤ r := hr0
                obtain rfl : z = false := by
                  rw [HZ.out]; exact declV_bad hlt (by rw [OkAt, ← HX.out]; exact fun ho => hfresh ho.2.2.2)
                clear HZ hpre hbit hr hx
                go_wp2_with fail
                go_quiet ((first | (go_at_call 40; exact drewRet_at C.out _ _) | (go_at_call 41; exact drewRet_at F.out _ _)))
                rename_i nq
                go_wp2_with fail
                go_ret
                exact ⟨rfl, m + nq, by simp [World.drewN, Nat.add_assoc]⟩
      · obtain rfl : k = ds.length := by omega
        have e := declV_end (by omega) hpre.out
        rw [← HZ.out, ← hbit.out] at e
        subst e
        clear HZ hpre hbit hr
        go_wp2_with fail
        go_ret
        exact ⟨rfl, m, rfl⟩
end Go.Proofs.YtfkanemjedndgaaGreatDoor
