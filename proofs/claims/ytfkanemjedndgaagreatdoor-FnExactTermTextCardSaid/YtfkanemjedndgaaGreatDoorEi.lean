/- DeclOk of the program. The conditions stand in each statement. -/
import Derived.Test.YtfkanemjedndgaaGreatDoorEn
import Derived.WalkKit
import Derived.Shelf.Strings.SlTrimAscii
namespace Go.Proofs
open Go.Shelf
def Tryz.lays160_ren : Go.Shelf.Ren := ⟨fun | 160 => 48 | 232 => 62 | 231 => 61 | 227 => 63 | 234 => 65 | 233 => 64 | 236 => 67 | 235 => 66 | 228 => 72 | 271 => 75 | 151 => 74 | 197 => 73 | 120 => 84 | 152 => 83 | 260 => 82 | 137 => 90 | 119 => 91 | 224 => 92 | 225 => 93 | 217 => 96 | 266 => 97 | n => n, fun | 9 => 9 | 4 => 4 | 3 => 3 | 5 => 5 | 117 => 114 | 116 => 113 | 0 => 0 | 124 => 117 | 21 => 21 | 105 => 122 | 46 => 138 | 119 => 140 | 139 => 143 | 138 => 142 | n => n, fun | 3 => 2 | 4 => 3 | n => n⟩
theorem Tryz.lays160 : Go.Proofs.Lays.n160 Tryz.prog Tryz.lays160_ren := {
  mixed := by kernel_rfl
  f119 := Tryz.func91.trans (congrArg some (by kernel_rfl))
  f120 := Tryz.func84.trans (congrArg some (by kernel_rfl))
  f137 := Tryz.func90.trans (congrArg some (by kernel_rfl))
  f151 := Tryz.func74.trans (congrArg some (by kernel_rfl))
  f152 := Tryz.func83.trans (congrArg some (by kernel_rfl))
  f160 := Tryz.func48.trans (congrArg some (by kernel_rfl))
  f197 := Tryz.func73.trans (congrArg some (by kernel_rfl))
  f217 := Tryz.func96.trans (congrArg some (by kernel_rfl))
  f224 := Tryz.func92.trans (congrArg some (by kernel_rfl))
  f225 := Tryz.func93.trans (congrArg some (by kernel_rfl))
  f227 := Tryz.func63.trans (congrArg some (by kernel_rfl))
  f228 := Tryz.func72.trans (congrArg some (by kernel_rfl))
  f231 := Tryz.func61.trans (congrArg some (by kernel_rfl))
  f232 := Tryz.func62.trans (congrArg some (by kernel_rfl))
  f233 := Tryz.func64.trans (congrArg some (by kernel_rfl))
  f234 := Tryz.func65.trans (congrArg some (by kernel_rfl))
  f235 := Tryz.func66.trans (congrArg some (by kernel_rfl))
  f236 := Tryz.func67.trans (congrArg some (by kernel_rfl))
  f260 := Tryz.func82.trans (congrArg some (by kernel_rfl))
  f266 := Tryz.func97.trans (congrArg some (by kernel_rfl))
  f271 := Tryz.func75.trans (congrArg some (by kernel_rfl))
  t0 := Tryz.underlying0
  a0 := Tryz.isAgg0
  z0 := Tryz.sizeOf0
  v0 := Tryz.zeroValue0
  t3 := Tryz.underlying3
  a3 := Tryz.isAgg3
  z3 := Tryz.sizeOf3
  v3 := Tryz.zeroValue3
  t4 := Tryz.underlying4
  a4 := Tryz.isAgg4
  z4 := Tryz.sizeOf4
  v4 := Tryz.zeroValue4
  t5 := Tryz.underlying5
  a5 := Tryz.isAgg5
  z5 := Tryz.sizeOf5
  v5 := Tryz.zeroValue5
  t9 := Tryz.underlying9
  a9 := Tryz.isAgg9
  z9 := Tryz.sizeOf9
  v9 := Tryz.zeroValue9
  t21 := Tryz.underlying21
  a21 := Tryz.isAgg21
  z21 := Tryz.sizeOf21
  v21 := Tryz.zeroValue21
  t46 := Tryz.underlying138
  a46 := Tryz.isAgg138
  z46 := Tryz.sizeOf138
  v46 := Tryz.zeroValue138
  t105 := Tryz.underlying122
  a105 := Tryz.isAgg122
  z105 := Tryz.sizeOf122
  v105 := Tryz.zeroValue122
  t116 := Tryz.underlying113
  a116 := Tryz.isAgg113
  z116 := Tryz.sizeOf113
  t117 := Tryz.underlying114
  a117 := Tryz.isAgg114
  z117 := Tryz.sizeOf114
  v117 := Tryz.zeroValue114
  t119 := Tryz.underlying140
  a119 := Tryz.isAgg140
  z119 := Tryz.sizeOf140
  t124 := Tryz.underlying117
  a124 := Tryz.isAgg117
  z124 := Tryz.sizeOf117
  v124 := Tryz.zeroValue117
  t138 := Tryz.underlying142
  a138 := Tryz.isAgg142
  z138 := Tryz.sizeOf142
  v138 := Tryz.zeroValue142
  t139 := Tryz.underlying143
  a139 := Tryz.isAgg143
  z139 := Tryz.sizeOf143
  v139 := Tryz.zeroValue143
  g3 := by kernel_rfl
  g4 := by kernel_rfl }
end Go.Proofs
namespace Go.Proofs.YtfkanemjedndgaaGreatDoor
open Go.RowKit Go.Shelf

theorem trim_any (s : ByteArray) (w : World) (hs : s.size ≤ 9223372036854775807) :
    Calls Tryz.prog 48 #[.string s, .string ⟨#[97, 98, 99, 100, 101, 102, 103, 104, 105, 106, 107, 108, 109, 110, 111, 112, 113, 114, 115, 116, 117, 118, 119, 120, 121, 122]⟩] w fun e w' => ∃ r : ByteArray, e = .returned (.string r) ∧ (r.toList.isEmpty = true ↔ ∀ b ∈ s.data.toList, lower b = true) ∧ Below w.heap.size w w' := by
  have hcon := Any.strings_Trim_laid Tryz.lays160 (by kernel_rfl) s ⟨#[97, 98, 99, 100, 101, 102, 103, 104, 105, 106, 107, 108, 109, 110, 111, 112, 113, 114, 115, 116, 117, 118, 119, 120, 121, 122]⟩ w hs (by decide) (ascii_of_all (by decide))
  change Calls Tryz.prog 48 _ _ (fun e w' => e = .returned (.string ⟨(Lib.trimS s.data.toList az).toArray⟩) ∧ Below w.heap.size w w') at hcon
  refine hcon.mono fun e w' h => ⟨_, h.1, ?_, h.2⟩
  rw [← trim_az, ByteArray.toList_eq, List.isEmpty_iff]

/-- whether two names are one: the function that DeclOk hands on -/
theorem same_any (y : ByteArray) (b : Int) (s : ByteArray) (p : Nat) (w : World) (hp : w.cell? ⟨p, 0, none⟩ = some (.string s)) (hpl : p < w.heap.size) :
    Calls Tryz.prog 50 #[.agg #[.string y, .int .i64 b], .pointer (some ⟨p, 0, none⟩)] w fun e w' => e = .returned (.bool (decide (y = s))) ∧ Below w.heap.size w w' := by
  have hb := below_self_alloc w (.cells #[.string y, .int .i64 b] 44)
  have hp2 := (hb.cell (p := ⟨p, 0, none⟩) hpl).trans hp
  by_cases h : y = s
  · subst h
    rw [decide_eq_true rfl]
    go_enter Tryz.func50, Tryz.ntmps50
    go_wp2_with fail
    go_ret
    exact ⟨rfl, hb⟩
  · have h2 := str_ne h
    rw [decide_eq_false h]
    clear h
    go_enter Tryz.func50, Tryz.ntmps50
    go_wp2_with fail
    go_ret
    exact ⟨rfl, hb⟩

set_option maxHeartbeats 1000000 in
theorem indexFunc_any (v : Value) (ds : List Dc) (n : Nat) (s : ByteArray) (p : Nat) (w : World) (h : DeclsN w v ds n) (hn : n ≤ 9223372036854775807) (hp : w.cell? ⟨p, 0, none⟩ = some (.string s)) (hpl : p < w.heap.size) :
    Calls Tryz.prog 68 #[v, .func (Fn.func 50) #[] #[.pointer (some ⟨p, 0, none⟩)]] w fun e w' => e = .returned (.int .i64 (findV ds s n)) ∧ Below w.heap.size w w' := by
  obtain ⟨a, cap, rfl, hr⟩ := h
  obtain ⟨z, hz⟩ : ∃ z, z = findV ds s n := ⟨_, rfl⟩
  rw [← hz]
  have HZ := Lib.hid hz
  clear hz
  go_enter Tryz.func68, Tryz.ntmps68
  go_wp2_with fail
  go_loopw [8] (fun i wr => ∃ k : Nat, k ≤ n ∧ i = .int .i64 k ∧ Hid (∀ j, j < k → (ds.getD j dz).1 ≠ s) ∧ Below w.heap.size w wr) (fun i _ => n - (intOf i).toNat)
  case atStart => exact ⟨0, Nat.zero_le _, rfl, fun _ h => absurd h (Nat.not_lt_zero _), Below.refl _ _⟩
  case round =>
    obtain ⟨k, hk, rfl, hpre, B⟩ := hrel
    have hp2 : wr.cell? ⟨p, 0, none⟩ = some (.string s) := (B.cell (p := ⟨p, 0, none⟩) hpl).trans hp
    have hpl2 : p < wr.heap.size := Nat.lt_of_lt_of_le hpl B.size
    by_cases hlt : k < n
    · obtain ⟨b, off, rfl, _, c0, c1⟩ := (hr.below B).duo hlt
      obtain ⟨x, hx⟩ : ∃ x, x = ds.getD k dz := ⟨_, rfl⟩
      rw [← hx] at c0 c1
      have HX := Lib.hid hx
      have hlt2 : (k : Int) < (n : Int) := by omega
      clear hx hr
      by_cases hs : x.1 = s
      · obtain rfl : z = k := by rw [HZ.out]; exact findV_at hpre.out (by rw [← HX.out]; exact hs) hlt
        have C := same_any x.1 x.2 s p wr hp2 hpl2
        rw [decide_eq_true hs] at C
        have C2 := Lib.hid C
        clear hpre HZ C hs
        go_wp2_with fail
        refine C2.out.mono ?_; rintro e w1 ⟨rfl, hb1⟩
        go_wp2_with fail
        go_ret
        exact ⟨rfl, below_two B hb1⟩
      · have hpre2 : Hid (∀ j, j < k + 1 → (ds.getD j dz).1 ≠ s) := fun j hj => by
          by_cases e : j = k
          · subst e; rw [← HX.out]; exact hs
          · exact hpre.out j (by omega)
        have C := same_any x.1 x.2 s p wr hp2 hpl2
        rw [decide_eq_false hs] at C
        have C2 := Lib.hid C
        clear hpre hs C
        go_wp2_with fail
        refine C2.out.mono ?_; rintro e w1 ⟨rfl, hb1⟩
        have B2 := below_two B hb1
        clear hb1 c0 c1 hp2
        go_wp2_with fail
        exact ⟨⟨k + 1, by omega, by go_num, hpre2, B2⟩, by simp [RowKit.intOf]; omega⟩
    · obtain rfl : k = n := by omega
      obtain rfl : z = -1 := by rw [HZ.out]; exact findV_none hpre.out
      clear hpre hr HZ
      go_wp2_with fail
      go_ret
      exact ⟨rfl, B⟩
theorem containsFunc_any (v : Value) (ds : List Dc) (n : Nat) (s : ByteArray) (p : Nat) (w : World) (h : DeclsN w v ds n) (hn : n ≤ 9223372036854775807) (hp : w.cell? ⟨p, 0, none⟩ = some (.string s)) (hpl : p < w.heap.size) :
    Calls Tryz.prog 49 #[v, .func (Fn.func 50) #[] #[.pointer (some ⟨p, 0, none⟩)]] w fun e w' => e = .returned (.bool (decide (0 ≤ findV ds s n))) ∧ Below w.heap.size w w' := by
  have C := Lib.hid (indexFunc_any v ds n s p w h hn hp hpl)
  clear h
  generalize findV ds s n = z at *
  go_enter Tryz.func49, Tryz.ntmps49
  go_wp2_with fail
  refine C.out.mono ?_; rintro e w1 ⟨rfl, hb1⟩
  go_wp2_with fail
  go_ret
  exact ⟨rfl, hb1⟩

set_option maxHeartbeats 4000000 in
theorem declOk_impl (v : Value) (ds : List Dc) (w : World) (h : Decls w v ds) :
    Calls Tryz.prog 30 #[v] w fun e w' => e = .returned (.bool (declV ds)) ∧ Below w.heap.size w w' := by
  have hl := h.len
  have HN := Lib.hid h.named
  obtain ⟨a, cap, rfl, hr, _⟩ := h
  have hcap : ds.length ≤ cap := hr.1
  obtain ⟨z, hz⟩ : ∃ z, z = declV ds := ⟨_, rfl⟩
  rw [← hz]
  have HZ := Lib.hid hz
  clear hz
  by_cases h4 : 4 < ds.length
  · obtain rfl : z = false := by rw [HZ.out]; exact declV_long h4
    clear HZ HN hr
    go_enter Tryz.func30, Tryz.ntmps30
    go_wp2_with fail
    go_ret
    exact ⟨rfl, Below.refl _ _⟩
  · go_enter Tryz.func30, Tryz.ntmps30
    go_wp2_with fail
    go_loopw [11, 3] (fun i q wr => ∃ (k : Nat) (b : Int), k ≤ ds.length ∧ i = .int .i64 k ∧ q = .int .i64 b ∧ 0 ≤ b ∧ b ≤ 16 ∧ Hid (b = bitsTo ds k) ∧ Hid (∀ i, i < k → OkAt ds i) ∧ Below w.heap.size w wr) (fun i _ _ => ds.length - (RowKit.intOf i).toNat)
    case atStart => exact ⟨0, 0, Nat.zero_le _, rfl, rfl, by omega, by omega, rfl, fun _ h => absurd h (Nat.not_lt_zero _), Below.refl _ _⟩
    case round =>
      obtain ⟨k, b, hk, rfl, rfl, b0, b1, hbit, hpre, B⟩ := hrel
      by_cases hlt : k < ds.length
      · have hr2 := hr.below B
        obtain ⟨bb, off, rfl, _, c0, c1⟩ := hr2.duo hlt
        have hlt2 : (k : Int) < (ds.length : Int) := by omega
        have hkc : (k : Int) ≤ (cap : Int) := by omega
        obtain ⟨x, hx⟩ : ∃ x, x = ds.getD k dz := ⟨_, rfl⟩
        have hsz := HN.out k hlt
        rw [← hx] at c0 c1 hsz
        have HX := Lib.hid hx
        have X := blk_new wr (.string x.1) (.int .i64 x.2) 44
        have BX := below_step B (.cells #[.string x.1, .int .i64 x.2] 44)
        obtain ⟨X0, X1, X2⟩ := X.cells
        have hr3 := hr2.below (below_self_alloc wr (.cells #[.string x.1, .int .i64 x.2] 44))
        clear hx hr hr2 B
        by_cases s1 : x.1.size < 1
        · obtain rfl : z = false := by
            rw [HZ.out]; exact declV_bad hlt (by rw [OkAt, ← HX.out]; intro ho; have := ho.1.2.1; omega)
          clear HZ hpre hbit hr3
          have s1' : decide ((x.1.size : Int) < 1) = true := by simp; omega
          clear s1
          go_wp2_with fail
          go_ret
          exact ⟨rfl, BX⟩
        have s1' : decide ((x.1.size : Int) < 1) = false := by simp; omega
        by_cases s4 : 4 < x.1.size
        · obtain rfl : z = false := by
            rw [HZ.out]; exact declV_bad hlt (by rw [OkAt, ← HX.out]; intro ho; have := ho.1.2.2.1; omega)
          clear HZ hpre hbit hr3
          have s4' : decide ((4 : Int) < (x.1.size : Int)) = true := by simp; omega
          clear s4 s1
          go_wp2_with fail
          go_ret
          exact ⟨rfl, BX⟩
        have s4' : decide ((4 : Int) < (x.1.size : Int)) = false := by simp; omega
        by_cases st : x.1 = trueB
        · obtain rfl : z = false := by
            rw [HZ.out]; exact declV_bad hlt (by rw [OkAt, ← HX.out]; intro ho; exact ho.1.2.2.2 st)
          clear HZ hpre hbit hr3
          have st' := true_eq st
          clear st
          go_wp2_with fail
          go_ret
          exact ⟨rfl, BX⟩
        have st' := true_ne st
        have T := Lib.hid (fun w => trim_any x.1 w hsz)
        go_wp2_with fail
        refine (T.out _).mono ?_; rintro e w1 ⟨r, rfl, hrr, hb1⟩
        clear T c0 c1 X0 X1 X2
        replace X := X.keep hb1
        replace BX := below_two BX hb1
        replace hr3 := hr3.below hb1
        obtain ⟨X0, X1, X2⟩ := X.cells
        clear hb1
        cases hre : r.toList.isEmpty
        · rw [hre] at hrr
          obtain rfl : z = false := by
            rw [HZ.out]; exact declV_bad hlt (by rw [OkAt, ← HX.out]; intro ho; have := hrr.2 ho.1.1; cases this)
          clear HZ hpre hbit hr3
          clear hrr
          go_wp2_with fail
          go_ret
          exact ⟨rfl, BX⟩
        · have hnm : NameOk x.1 := ⟨hrr.1 hre, by omega, by omega, st⟩
          clear hrr st st' s1 s4
          have C1 := containsFunc_any (.slice (some ⟨bb, off, none⟩) k cap) ds k x.1 wr.heap.size w1 ⟨_, _, rfl, hr3.take (by omega)⟩ (by omega) X0 X2
          have hfv := fresh_of (ds := ds) (k := k)
          rw [← HX.out] at hfv
          generalize findV ds x.1 k = r2 at *
          rcases hfv with ⟨rfl, hfresh⟩ | ⟨hr0, hfresh⟩
          · rw [decide_eq_false (show ¬ (0 : Int) ≤ -1 by omega)] at C1
            have C := Lib.hid C1
            clear C1
            go_wp2_with fail
            refine C.out.mono ?_; rintro e w2 ⟨rfl, hb1⟩
            clear C X0 X1 X2
            replace X := X.keep hb1
            replace BX := below_two BX hb1
            replace hr3 := hr3.below hb1
            obtain ⟨X0, X1, X2⟩ := X.cells
            clear hb1
            by_cases w1' : x.2 < 1
            · obtain rfl : z = false := by
                rw [HZ.out]; exact declV_bad hlt (by rw [OkAt, ← HX.out]; intro ho; have := ho.2.1; omega)
              clear HZ hpre hbit hr3
              go_wp2_with fail
              go_ret
              exact ⟨rfl, BX⟩
            · by_cases w4 : 4 < x.2
              · have w1f : decide (x.2 < 1) = false := by simpa using w1'
                obtain rfl : z = false := by
                  rw [HZ.out]; exact declV_bad hlt (by rw [OkAt, ← HX.out]; intro ho; have := ho.2.2.1; omega)
                clear HZ hpre hbit hr3
                clear w1'
                go_wp2_with fail
                go_ret
                exact ⟨rfl, BX⟩
              · have w1f : decide (x.2 < 1) = false := by simpa using w1'
                have w4f : decide (4 < x.2) = false := by simpa using w4
                have hok : OkAt ds k := by rw [OkAt, ← HX.out]; exact ⟨hnm, by omega, by omega, hfresh⟩
                have hpre2 : Hid (∀ i, i < k + 1 → OkAt ds i) := fun i hi => by
                  by_cases e : i = k
                  · rw [e]; exact hok
                  · exact hpre.out i (by omega)
                have hbb := bitsTo_bound hpre.out
                rw [← hbit.out] at hbb
                have hbit2 : Hid (b + x.2 = bitsTo ds (k + 1)) := by
                  show b + x.2 = bitsTo ds k + _
                  rw [← hbit.out, ← HX.out]
                have hb3 : b ≤ 12 := by omega
                clear hpre hbit hr3 hok hnm hfresh hbb
                go_wp2_with fail
                exact ⟨⟨k + 1, b + x.2, by omega, by go_num, rfl, by omega, by omega, hbit2, hpre2, BX⟩, by simp [RowKit.intOf]; omega⟩
          · rw [decide_eq_true hr0] at C1
            have C := Lib.hid C1
            obtain rfl : z = false := by
              rw [HZ.out]; exact declV_bad hlt (by rw [OkAt, ← HX.out]; exact fun ho => hfresh ho.2.2.2)
            clear HZ hpre hbit hr3 C1
            go_wp2_with fail
            refine C.out.mono ?_; rintro e w2 ⟨rfl, hb1⟩
            replace BX := below_two BX hb1
            go_wp2_with fail
            go_ret
            exact ⟨rfl, BX⟩
      · obtain rfl : k = ds.length := by omega
        have e := declV_end (by omega) hpre.out
        rw [← HZ.out, ← hbit.out] at e
        subst e
        clear HZ hpre hbit hr
        go_wp2_with fail
        go_ret
        exact ⟨rfl, B⟩
end Go.Proofs.YtfkanemjedndgaaGreatDoor
