/- DeclOk of the program. The conditions stand in each statement. -/
import Derived.Test.YtfkanemjedndgaaDoorEn
import Derived.WalkKit
import Derived.Shelf.Strings.SlTrimAscii
namespace Go.Proofs
open Go.Shelf
def Tryd.lays160_ren : Go.Shelf.Ren := ⟨fun | 160 => 37 | 232 => 53 | 231 => 52 | 227 => 54 | 234 => 56 | 233 => 55 | 236 => 58 | 235 => 57 | 228 => 65 | 271 => 68 | 151 => 67 | 197 => 66 | 120 => 72 | 152 => 71 | 260 => 70 | 137 => 73 | 119 => 74 | 224 => 75 | 225 => 76 | 217 => 77 | 266 => 78 | n => n, fun | 9 => 9 | 4 => 4 | 3 => 3 | 5 => 5 | 117 => 107 | 116 => 106 | 0 => 0 | 124 => 110 | 21 => 21 | 105 => 115 | 46 => 120 | 119 => 119 | 139 => 123 | 138 => 122 | n => n, fun | 3 => 0 | 4 => 1 | n => n⟩
theorem Tryd.lays160 : Go.Proofs.Lays.n160 Tryd.prog Tryd.lays160_ren := {
  mixed := by kernel_rfl
  f119 := Tryd.func74.trans (congrArg some (by kernel_rfl))
  f120 := Tryd.func72.trans (congrArg some (by kernel_rfl))
  f137 := Tryd.func73.trans (congrArg some (by kernel_rfl))
  f151 := Tryd.func67.trans (congrArg some (by kernel_rfl))
  f152 := Tryd.func71.trans (congrArg some (by kernel_rfl))
  f160 := Tryd.func37.trans (congrArg some (by kernel_rfl))
  f197 := Tryd.func66.trans (congrArg some (by kernel_rfl))
  f217 := Tryd.func77.trans (congrArg some (by kernel_rfl))
  f224 := Tryd.func75.trans (congrArg some (by kernel_rfl))
  f225 := Tryd.func76.trans (congrArg some (by kernel_rfl))
  f227 := Tryd.func54.trans (congrArg some (by kernel_rfl))
  f228 := Tryd.func65.trans (congrArg some (by kernel_rfl))
  f231 := Tryd.func52.trans (congrArg some (by kernel_rfl))
  f232 := Tryd.func53.trans (congrArg some (by kernel_rfl))
  f233 := Tryd.func55.trans (congrArg some (by kernel_rfl))
  f234 := Tryd.func56.trans (congrArg some (by kernel_rfl))
  f235 := Tryd.func57.trans (congrArg some (by kernel_rfl))
  f236 := Tryd.func58.trans (congrArg some (by kernel_rfl))
  f260 := Tryd.func70.trans (congrArg some (by kernel_rfl))
  f266 := Tryd.func78.trans (congrArg some (by kernel_rfl))
  f271 := Tryd.func68.trans (congrArg some (by kernel_rfl))
  t0 := Tryd.underlying0
  a0 := Tryd.isAgg0
  z0 := Tryd.sizeOf0
  v0 := Tryd.zeroValue0
  t3 := Tryd.underlying3
  a3 := Tryd.isAgg3
  z3 := Tryd.sizeOf3
  v3 := Tryd.zeroValue3
  t4 := Tryd.underlying4
  a4 := Tryd.isAgg4
  z4 := Tryd.sizeOf4
  v4 := Tryd.zeroValue4
  t5 := Tryd.underlying5
  a5 := Tryd.isAgg5
  z5 := Tryd.sizeOf5
  v5 := Tryd.zeroValue5
  t9 := Tryd.underlying9
  a9 := Tryd.isAgg9
  z9 := Tryd.sizeOf9
  v9 := Tryd.zeroValue9
  t21 := Tryd.underlying21
  a21 := Tryd.isAgg21
  z21 := Tryd.sizeOf21
  v21 := Tryd.zeroValue21
  t46 := Tryd.underlying120
  a46 := Tryd.isAgg120
  z46 := Tryd.sizeOf120
  v46 := Tryd.zeroValue120
  t105 := Tryd.underlying115
  a105 := Tryd.isAgg115
  z105 := Tryd.sizeOf115
  v105 := Tryd.zeroValue115
  t116 := Tryd.underlying106
  a116 := Tryd.isAgg106
  z116 := Tryd.sizeOf106
  t117 := Tryd.underlying107
  a117 := Tryd.isAgg107
  z117 := Tryd.sizeOf107
  v117 := Tryd.zeroValue107
  t119 := Tryd.underlying119
  a119 := Tryd.isAgg119
  z119 := Tryd.sizeOf119
  t124 := Tryd.underlying110
  a124 := Tryd.isAgg110
  z124 := Tryd.sizeOf110
  v124 := Tryd.zeroValue110
  t138 := Tryd.underlying122
  a138 := Tryd.isAgg122
  z138 := Tryd.sizeOf122
  v138 := Tryd.zeroValue122
  t139 := Tryd.underlying123
  a139 := Tryd.isAgg123
  z139 := Tryd.sizeOf123
  v139 := Tryd.zeroValue123
  g3 := by kernel_rfl
  g4 := by kernel_rfl }
end Go.Proofs
namespace Go.Proofs.YtfkanemjedndgaaDoor
open Go.RowKit Go.Shelf

theorem trim_any (s : ByteArray) (w : World) (hs : s.size ≤ 9223372036854775807) :
    Calls Tryd.prog 37 #[.string s, .string ⟨#[97, 98, 99, 100, 101, 102, 103, 104, 105, 106, 107, 108, 109, 110, 111, 112, 113, 114, 115, 116, 117, 118, 119, 120, 121, 122]⟩] w fun e w' => ∃ r : ByteArray, e = .returned (.string r) ∧ (r.toList.isEmpty = true ↔ ∀ b ∈ s.data.toList, lower b = true) ∧ Below w.heap.size w w' := by
  have hcon := Any.strings_Trim_laid Tryd.lays160 (by kernel_rfl) s ⟨#[97, 98, 99, 100, 101, 102, 103, 104, 105, 106, 107, 108, 109, 110, 111, 112, 113, 114, 115, 116, 117, 118, 119, 120, 121, 122]⟩ w hs (by decide) (ascii_of_all (by decide))
  change Calls Tryd.prog 37 _ _ (fun e w' => e = .returned (.string ⟨(Lib.trimS s.data.toList az).toArray⟩) ∧ Below w.heap.size w w') at hcon
  refine hcon.mono fun e w' h => ⟨_, h.1, ?_, h.2⟩
  rw [← trim_az, ByteArray.toList_eq, List.isEmpty_iff]

/-- whether two names are one: the function that DeclOk hands on -/
theorem same_any (y : ByteArray) (b : Int) (s : ByteArray) (p : Nat) (w : World) (hp : w.cell? ⟨p, 0, none⟩ = some (.string s)) (hpl : p < w.heap.size) :
    Calls Tryd.prog 39 #[.agg #[.string y, .int .i64 b], .pointer (some ⟨p, 0, none⟩)] w fun e w' => e = .returned (.bool (decide (y = s))) ∧ Below w.heap.size w w' := by
  have hb := below_self_alloc w (.cells #[.string y, .int .i64 b] 49)
  have hp2 := (hb.cell (p := ⟨p, 0, none⟩) hpl).trans hp
  by_cases h : y = s
  · subst h
    rw [decide_eq_true rfl]
    go_enter Tryd.func39, Tryd.ntmps39
    go_wp2_with fail
    go_ret
    exact ⟨rfl, hb⟩
  · have h2 := str_ne h
    rw [decide_eq_false h]
    clear h
    go_enter Tryd.func39, Tryd.ntmps39
    go_wp2_with fail
    go_ret
    exact ⟨rfl, hb⟩

set_option maxHeartbeats 1000000 in
theorem indexFunc_any (v : Value) (ds : List Dc) (n : Nat) (s : ByteArray) (p : Nat) (w : World) (h : DeclsN w v ds n) (hn : n ≤ 9223372036854775807) (hp : w.cell? ⟨p, 0, none⟩ = some (.string s)) (hpl : p < w.heap.size) :
    Calls Tryd.prog 59 #[v, .func (Fn.func 39) #[] #[.pointer (some ⟨p, 0, none⟩)]] w fun e w' => e = .returned (.int .i64 (findV ds s n)) ∧ Below w.heap.size w w' := by
  obtain ⟨a, cap, rfl, hr⟩ := h
  obtain ⟨z, hz⟩ : ∃ z, z = findV ds s n := ⟨_, rfl⟩
  rw [← hz]
  have HZ := Lib.hid hz
  clear hz
  go_enter Tryd.func59, Tryd.ntmps59
  go_wp2_with fail
  go_loopw [8] (fun i wr => ∃ k : Nat, k ≤ n ∧ i = .int .i64 k ∧ Hid (∀ j, j < k → (ds.getD j dz).1 ≠ s) ∧ Below w.heap.size w wr) (fun i _ => n - (intOf i).toNat)
  case atStart => exact ⟨0, Nat.zero_le _, rfl, fun _ h => absurd h (Nat.not_lt_zero _), Below.refl _ _⟩
  case round =>
    obtain ⟨k, hk, rfl, hpre, B⟩ := hrel
    have hp2 : wr.cell? ⟨p, 0, none⟩ = some (.string s) := (B.cell (p := ⟨p, 0, none⟩) hpl).trans hp
    have hpl2 : p < wr.heap.size := Nat.lt_of_lt_of_le hpl B.size
    by_cases hlt : k < n
    · obtain ⟨b, off, rfl, _, c0, c1⟩ := (hr.below B).duo hlt
      obtain ⟨x, hx⟩ : ∃ x, x = ds.getD k dz := ⟨_, rfl⟩
      rw [← hx] at c0 c1
      have HX := Lib.hid hx
      have hlt2 : (k : Int) < (n : Int) := by omega
      clear hx hr
      by_cases hs : x.1 = s
      · obtain rfl : z = k := by rw [HZ.out]; exact findV_at hpre.out (by rw [← HX.out]; exact hs) hlt
        have C := same_any x.1 x.2 s p wr hp2 hpl2
        rw [decide_eq_true hs] at C
        have C2 := Lib.hid C
        clear hpre HZ C hs
        go_wp2_with fail
        refine C2.out.mono ?_; rintro e w1 ⟨rfl, hb1⟩
        go_wp2_with fail
        go_ret
        exact ⟨rfl, below_two B hb1⟩
      · have hpre2 : Hid (∀ j, j < k + 1 → (ds.getD j dz).1 ≠ s) := fun j hj => by
          by_cases e : j = k
          · subst e; rw [← HX.out]; exact hs
          · exact hpre.out j (by omega)
        have C := same_any x.1 x.2 s p wr hp2 hpl2
        rw [decide_eq_false hs] at C
        have C2 := Lib.hid C
        clear hpre hs C
        go_wp2_with fail
        refine C2.out.mono ?_; rintro e w1 ⟨rfl, hb1⟩
        have B2 := below_two B hb1
        clear hb1 c0 c1 hp2
        go_wp2_with fail
        exact ⟨⟨k + 1, by omega, by go_num, hpre2, B2⟩, by simp [RowKit.intOf]; omega⟩
    · obtain rfl : k = n := by omega
      obtain rfl : z = -1 := by rw [HZ.out]; exact findV_none hpre.out
      clear hpre hr HZ
      go_wp2_with fail
      go_ret
      exact ⟨rfl, B⟩
theorem containsFunc_any (v : Value) (ds : List Dc) (n : Nat) (s : ByteArray) (p : Nat) (w : World) (h : DeclsN w v ds n) (hn : n ≤ 9223372036854775807) (hp : w.cell? ⟨p, 0, none⟩ = some (.string s)) (hpl : p < w.heap.size) :
    Calls Tryd.prog 38 #[v, .func (Fn.func 39) #[] #[.pointer (some ⟨p, 0, none⟩)]] w fun e w' => e = .returned (.bool (decide (0 ≤ findV ds s n))) ∧ Below w.heap.size w w' := by
  have C := Lib.hid (indexFunc_any v ds n s p w h hn hp hpl)
  clear h
  generalize findV ds s n = z at *
  go_enter Tryd.func38, Tryd.ntmps38
  go_wp2_with fail
  refine C.out.mono ?_; rintro e w1 ⟨rfl, hb1⟩
  go_wp2_with fail
  go_ret
  exact ⟨rfl, hb1⟩

set_option maxHeartbeats 4000000 in
theorem declOk_impl (v : Value) (ds : List Dc) (w : World) (h : Decls w v ds) :
    Calls Tryd.prog 22 #[v] w fun e w' => e = .returned (.bool (declV ds)) ∧ Below w.heap.size w w' := by
  have hl := h.len
  have HN := Lib.hid h.named
  obtain ⟨a, cap, rfl, hr, _⟩ := h
  have hcap : ds.length ≤ cap := hr.1
  obtain ⟨z, hz⟩ : ∃ z, z = declV ds := ⟨_, rfl⟩
  rw [← hz]
  have HZ := Lib.hid hz
  clear hz
  by_cases h4 : 4 < ds.length
  · obtain rfl : z = false := by rw [HZ.out]; exact declV_long h4
    clear HZ HN hr
    go_enter Tryd.func22, Tryd.ntmps22
    go_wp2_with fail
    go_ret
    exact ⟨rfl, Below.refl _ _⟩
  · go_enter Tryd.func22, Tryd.ntmps22
    go_wp2_with fail
    go_loopw [11, 3] (fun i q wr => ∃ (k : Nat) (b : Int), k ≤ ds.length ∧ i = .int .i64 k ∧ q = .int .i64 b ∧ 0 ≤ b ∧ b ≤ 16 ∧ Hid (b = bitsTo ds k) ∧ Hid (∀ i, i < k → OkAt ds i) ∧ Below w.heap.size w wr) (fun i _ _ => ds.length - (RowKit.intOf i).toNat)
    case atStart => exact ⟨0, 0, Nat.zero_le _, rfl, rfl, by omega, by omega, rfl, fun _ h => absurd h (Nat.not_lt_zero _), Below.refl _ _⟩
    case round =>
      obtain ⟨k, b, hk, rfl, rfl, b0, b1, hbit, hpre, B⟩ := hrel
      by_cases hlt : k < ds.length
      · have hr2 := hr.below B
        obtain ⟨bb, off, rfl, _, c0, c1⟩ := hr2.duo hlt
        have hlt2 : (k : Int) < (ds.length : Int) := by omega
        have hkc : (k : Int) ≤ (cap : Int) := by omega
        obtain ⟨x, hx⟩ : ∃ x, x = ds.getD k dz := ⟨_, rfl⟩
        have hsz := HN.out k hlt
        rw [← hx] at c0 c1 hsz
        have HX := Lib.hid hx
        have X := blk_new wr (.string x.1) (.int .i64 x.2) 49
        have BX := below_step B (.cells #[.string x.1, .int .i64 x.2] 49)
        obtain ⟨X0, X1, X2⟩ := X.cells
        have hr3 := hr2.below (below_self_alloc wr (.cells #[.string x.1, .int .i64 x.2] 49))
        clear hx hr hr2 B
        by_cases s1 : x.1.size < 1
        · obtain rfl : z = false := by
            rw [HZ.out]; exact declV_bad hlt (by rw [OkAt, ← HX.out]; intro ho; have := ho.1.2.1; omega)
          clear HZ hpre hbit hr3
          have s1' : decide ((x.1.size : Int) < 1) = true := by simp; omega
          clear s1
          go_wp2_with fail
          go_ret
          exact ⟨rfl, BX⟩
        have s1' : decide ((x.1.size : Int) < 1) = false := by simp; omega
        by_cases s4 : 4 < x.1.size
        · obtain rfl : z = false := by
            rw [HZ.out]; exact declV_bad hlt (by rw [OkAt, ← HX.out]; intro ho; have := ho.1.2.2.1; omega)
          clear HZ hpre hbit hr3
          have s4' : decide ((4 : Int) < (x.1.size : Int)) = true := by simp; omega
          clear s4 s1
          go_wp2_with fail
          go_ret
          exact ⟨rfl, BX⟩
        have s4' : decide ((4 : Int) < (x.1.size : Int)) = false := by simp; omega
        by_cases st : x.1 = trueB
        · obtain rfl : z = false := by
            rw [HZ.out]; exact declV_bad hlt (by rw [OkAt, ← HX.out]; intro ho; exact ho.1.2.2.2 st)
          clear HZ hpre hbit hr3
          have st' := true_eq st
          clear st
          go_wp2_with fail
          go_ret
          exact ⟨rfl, BX⟩
        have st' := true_ne st
        have T := Lib.hid (fun w => trim_any x.1 w hsz)
        go_wp2_with fail
        refine (T.out _).mono ?_; rintro e w1 ⟨r, rfl, hrr, hb1⟩
        clear T c0 c1 X0 X1 X2
        replace X := X.keep hb1
        replace BX := below_two BX hb1
        replace hr3 := hr3.below hb1
        obtain ⟨X0, X1, X2⟩ := X.cells
        clear hb1
        cases hre : r.toList.isEmpty
        · rw [hre] at hrr
          obtain rfl : z = false := by
            rw [HZ.out]; exact declV_bad hlt (by rw [OkAt, ← HX.out]; intro ho; have := hrr.2 ho.1.1; cases this)
          clear HZ hpre hbit hr3
          clear hrr
          go_wp2_with fail
          go_ret
          exact ⟨rfl, BX⟩
        · have hnm : NameOk x.1 := ⟨hrr.1 hre, by omega, by omega, st⟩
          clear hrr st st' s1 s4
          have C1 := containsFunc_any (.slice (some ⟨bb, off, none⟩) k cap) ds k x.1 wr.heap.size w1 ⟨_, _, rfl, hr3.take (by omega)⟩ (by omega) X0 X2
          have hfv := fresh_of (ds := ds) (k := k)
          rw [← HX.out] at hfv
          generalize findV ds x.1 k = r2 at *
          rcases hfv with ⟨rfl, hfresh⟩ | ⟨hr0, hfresh⟩
          · rw [decide_eq_false (show ¬ (0 : Int) ≤ -1 by omega)] at C1
            have C := Lib.hid C1
            clear C1
            go_wp2_with fail
            refine C.out.mono ?_; rintro e w2 ⟨rfl, hb1⟩
            clear C X0 X1 X2
            replace X := X.keep hb1
            replace BX := below_two BX hb1
            replace hr3 := hr3.below hb1
            obtain ⟨X0, X1, X2⟩ := X.cells
            clear hb1
            by_cases w1' : x.2 < 1
            · obtain rfl : z = false := by
                rw [HZ.out]; exact declV_bad hlt (by rw [OkAt, ← HX.out]; intro ho; have := ho.2.1; omega)
              clear HZ hpre hbit hr3
              go_wp2_with fail
              go_ret
              exact ⟨rfl, BX⟩
            · by_cases w4 : 4 < x.2
              · have w1f : decide (x.2 < 1) = false := by simpa using w1'
                obtain rfl : z = false := by
                  rw [HZ.out]; exact declV_bad hlt (by rw [OkAt, ← HX.out]; intro ho; have := ho.2.2.1; omega)
                clear HZ hpre hbit hr3
                clear w1'
                go_wp2_with fail
                go_ret
                exact ⟨rfl, BX⟩
              · have w1f : decide (x.2 < 1) = false := by simpa using w1'
                have w4f : decide (4 < x.2) = false := by simpa using w4
                have hok : OkAt ds k := by rw [OkAt, ← HX.out]; exact ⟨hnm, by omega, by omega, hfresh⟩
                have hpre2 : Hid (∀ i, i < k + 1 → OkAt ds i) := fun i hi => by
                  by_cases e : i = k
                  · rw [e]; exact hok
                  · exact hpre.out i (by omega)
                have hbb := bitsTo_bound hpre.out
                rw [← hbit.out] at hbb
                have hbit2 : Hid (b + x.2 = bitsTo ds (k + 1)) := by
                  show b + x.2 = bitsTo ds k + _
                  rw [← hbit.out, ← HX.out]
                have hb3 : b ≤ 12 := by omega
                clear hpre hbit hr3 hok hnm hfresh hbb
                go_wp2_with fail
                exact ⟨⟨k + 1, b + x.2, by omega, by go_num, rfl, by omega, by omega, hbit2, hpre2, BX⟩, by simp [RowKit.intOf]; omega⟩
          · rw [decide_eq_true hr0] at C1
            have C := Lib.hid C1
            obtain rfl : z = false := by
              rw [HZ.out]; exact declV_bad hlt (by rw [OkAt, ← HX.out]; exact fun ho => hfresh ho.2.2.2)
            clear HZ hpre hbit hr3 C1
            go_wp2_with fail
            refine C.out.mono ?_; rintro e w2 ⟨rfl, hb1⟩
            replace BX := below_two BX hb1
            go_wp2_with fail
            go_ret
            exact ⟨rfl, BX⟩
      · obtain rfl : k = ds.length := by omega
        have e := declV_end (by omega) hpre.out
        rw [← HZ.out, ← hbit.out] at e
        subst e
        clear HZ hpre hbit hr
        go_wp2_with fail
        go_ret
        exact ⟨rfl, B⟩
end Go.Proofs.YtfkanemjedndgaaDoor
