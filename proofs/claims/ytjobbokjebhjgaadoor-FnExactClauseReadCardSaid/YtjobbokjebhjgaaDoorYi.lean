/- ClauseRead of the program. The conditions stand in each statement. -/
import Derived.Test.YtjobbokjebhjgaaDoorYr
import Derived.Shelf.Strconv.AtoiAll
import Derived.Shelf.Strconv.ErrVarAll
import Derived.Lib.OthersKept
import Derived.Lib.VarintMem
import Derived.Laws.RangeAny
namespace Go.Proofs
open Go.Shelf
def Tryd.lays172_ren : Go.Shelf.Ren := ⟨fun | 172 => 19 | 244 => 25 | 245 => 26 | 247 => 28 | 279 => 29 | 280 => 30 | 281 => 31 | 282 => 32 | 287 => 37 | 316 => 38 | 171 => 40 | 205 => 39 | 321 => 46 | 322 => 47 | 243 => 48 | 246 => 51 | 283 => 33 | 284 => 34 | 285 => 35 | 286 => 36 | 129 => 42 | 317 => 41 | 318 => 43 | 319 => 44 | 320 => 45 | 337 => 49 | 338 => 50 | n => n, fun | 9 => 9 | 3 => 3 | 75 => 40 | 76 => 41 | 4 => 4 | 5 => 5 | 167 => 51 | 37 => 33 | 0 => 0 | 85 => 52 | 2 => 2 | 168 => 54 | 53 => 49 | 175 => 62 | 46 => 64 | 210 => 67 | 127 => 75 | 145 => 78 | 143 => 76 | 21 => 21 | 171 => 57 | 173 => 60 | 212 => 70 | 51 => 71 | 20 => 20 | 213 => 72 | 232 => 81 | 233 => 82 | 80 => 83 | n => n, fun | 15 => 0 | 16 => 1 | 17 => 2 | 18 => 3 | 19 => 4 | n => n⟩
theorem Tryd.lays172 : Go.Proofs.LaysC.n172 Tryd.prog Tryd.lays172_ren := {
  mixed := by kernel_rfl
  f129 := Tryd.func42.trans (congrArg some (by kernel_rfl))
  f171 := Tryd.func40.trans (congrArg some (by kernel_rfl))
  f172 := Tryd.func19.trans (congrArg some (by kernel_rfl))
  f205 := Tryd.func39.trans (congrArg some (by kernel_rfl))
  f243 := Tryd.func48.trans (congrArg some (by kernel_rfl))
  f244 := Tryd.func25.trans (congrArg some (by kernel_rfl))
  f245 := Tryd.func26.trans (congrArg some (by kernel_rfl))
  f246 := Tryd.func51.trans (congrArg some (by kernel_rfl))
  f247 := Tryd.func28.trans (congrArg some (by kernel_rfl))
  f279 := Tryd.func29.trans (congrArg some (by kernel_rfl))
  f280 := Tryd.func30.trans (congrArg some (by kernel_rfl))
  f281 := Tryd.func31.trans (congrArg some (by kernel_rfl))
  f282 := Tryd.func32.trans (congrArg some (by kernel_rfl))
  f283 := Tryd.func33.trans (congrArg some (by kernel_rfl))
  f284 := Tryd.func34.trans (congrArg some (by kernel_rfl))
  f285 := Tryd.func35.trans (congrArg some (by kernel_rfl))
  f286 := Tryd.func36.trans (congrArg some (by kernel_rfl))
  f287 := Tryd.func37.trans (congrArg some (by kernel_rfl))
  f316 := Tryd.func38.trans (congrArg some (by kernel_rfl))
  f317 := Tryd.func41.trans (congrArg some (by kernel_rfl))
  f318 := Tryd.func43.trans (congrArg some (by kernel_rfl))
  f319 := Tryd.func44.trans (congrArg some (by kernel_rfl))
  f320 := Tryd.func45.trans (congrArg some (by kernel_rfl))
  f321 := Tryd.func46.trans (congrArg some (by kernel_rfl))
  f322 := Tryd.func47.trans (congrArg some (by kernel_rfl))
  f337 := Tryd.func49.trans (congrArg some (by kernel_rfl))
  f338 := Tryd.func50.trans (congrArg some (by kernel_rfl))
  t0 := Tryd.underlying0
  a0 := Tryd.isAgg0
  z0 := Tryd.sizeOf0
  v0 := Tryd.zeroValue0
  t2 := Tryd.underlying2
  a2 := Tryd.isAgg2
  z2 := Tryd.sizeOf2
  v2 := Tryd.zeroValue2
  t3 := Tryd.underlying3
  a3 := Tryd.isAgg3
  z3 := Tryd.sizeOf3
  v3 := Tryd.zeroValue3
  t4 := Tryd.underlying4
  a4 := Tryd.isAgg4
  z4 := Tryd.sizeOf4
  v4 := Tryd.zeroValue4
  t5 := Tryd.underlying5
  a5 := Tryd.isAgg5
  z5 := Tryd.sizeOf5
  v5 := Tryd.zeroValue5
  t9 := Tryd.underlying9
  a9 := Tryd.isAgg9
  z9 := Tryd.sizeOf9
  v9 := Tryd.zeroValue9
  t20 := Tryd.underlying20
  a20 := Tryd.isAgg20
  z20 := Tryd.sizeOf20
  v20 := Tryd.zeroValue20
  t21 := Tryd.underlying21
  a21 := Tryd.isAgg21
  z21 := Tryd.sizeOf21
  v21 := Tryd.zeroValue21
  t37 := Tryd.underlying33
  a37 := Tryd.isAgg33
  z37 := Tryd.sizeOf33
  v37 := Tryd.zeroValue33
  t46 := Tryd.underlying64
  a46 := Tryd.isAgg64
  z46 := Tryd.sizeOf64
  v46 := Tryd.zeroValue64
  t51 := Tryd.underlying71
  a51 := Tryd.isAgg71
  z51 := Tryd.sizeOf71
  v51 := Tryd.zeroValue71
  t53 := Tryd.underlying49
  a53 := Tryd.isAgg49
  z53 := Tryd.sizeOf49
  v53 := Tryd.zeroValue49
  t75 := Tryd.underlying40
  a75 := Tryd.isAgg40
  z75 := Tryd.sizeOf40
  v75 := Tryd.zeroValue40
  t76 := Tryd.underlying41
  a76 := Tryd.isAgg41
  z76 := Tryd.sizeOf41
  v76 := Tryd.zeroValue41
  t85 := Tryd.underlying52
  a85 := Tryd.isAgg52
  z85 := Tryd.sizeOf52
  v85 := Tryd.zeroValue52
  t127 := Tryd.underlying75
  a127 := Tryd.isAgg75
  z127 := Tryd.sizeOf75
  v127 := Tryd.zeroValue75
  t143 := Tryd.underlying76
  a143 := Tryd.isAgg76
  z143 := Tryd.sizeOf76
  v143 := Tryd.zeroValue76
  t145 := Tryd.underlying78
  a145 := Tryd.isAgg78
  z145 := Tryd.sizeOf78
  v145 := Tryd.zeroValue78
  t167 := Tryd.underlying51
  a167 := Tryd.isAgg51
  z167 := Tryd.sizeOf51
  v167 := Tryd.zeroValue51
  t168 := Tryd.underlying54
  a168 := Tryd.isAgg54
  z168 := Tryd.sizeOf54
  v168 := Tryd.zeroValue54
  t171 := Tryd.underlying57
  a171 := Tryd.isAgg57
  z171 := Tryd.sizeOf57
  v171 := Tryd.zeroValue57
  t173 := Tryd.underlying60
  a173 := Tryd.isAgg60
  z173 := Tryd.sizeOf60
  v173 := Tryd.zeroValue60
  t175 := Tryd.underlying62
  a175 := Tryd.isAgg62
  z175 := Tryd.sizeOf62
  v175 := Tryd.zeroValue62
  t210 := Tryd.underlying67
  a210 := Tryd.isAgg67
  z210 := Tryd.sizeOf67
  v210 := Tryd.zeroValue67
  t212 := Tryd.underlying70
  a212 := Tryd.isAgg70
  z212 := Tryd.sizeOf70
  v212 := Tryd.zeroValue70
  t213 := Tryd.underlying72
  a213 := Tryd.isAgg72
  z213 := Tryd.sizeOf72
  t232 := Tryd.underlying81
  a232 := Tryd.isAgg81
  z232 := Tryd.sizeOf81
  v232 := Tryd.zeroValue81
  t233 := Tryd.underlying82
  a233 := Tryd.isAgg82
  z233 := Tryd.sizeOf82
  v233 := Tryd.zeroValue82
  g15 := by kernel_rfl
  g16 := by kernel_rfl
  g17 := by kernel_rfl
  g18 := by kernel_rfl
  g19 := by kernel_rfl
  t80 := Tryd.underlying83
  a80 := Tryd.isAgg83
  z80 := Tryd.sizeOf83
  v80 := Tryd.zeroValue83
  i0 := by kernel_rfl
  i2 := by kernel_rfl
  i3 := by kernel_rfl
  i4 := by kernel_rfl
  i5 := by kernel_rfl
  i9 := by kernel_rfl
  i20 := by kernel_rfl
  i21 := by kernel_rfl
  i37 := by kernel_rfl
  i46 := by kernel_rfl
  i51 := by kernel_rfl
  i53 := by kernel_rfl
  i75 := by kernel_rfl
  i76 := by kernel_rfl
  i80 := by kernel_rfl
  i85 := by kernel_rfl
  i127 := by kernel_rfl
  i143 := by kernel_rfl
  i145 := by kernel_rfl
  i167 := by kernel_rfl
  i168 := by kernel_rfl
  i171 := by kernel_rfl
  i173 := by kernel_rfl
  i175 := by kernel_rfl
  i210 := by kernel_rfl
  i212 := by kernel_rfl
  i232 := by kernel_rfl
  i233 := by kernel_rfl
  m15 := by kernel_rfl
  m16 := by kernel_rfl
  m17 := by kernel_rfl
  m18 := by kernel_rfl
  m19 := by kernel_rfl
  c0 := by kernel_rfl
  c2 := by kernel_rfl
  c3 := by kernel_rfl
  c4 := by kernel_rfl
  c5 := by kernel_rfl
  c9 := by kernel_rfl
  c20 := by kernel_rfl
  c21 := by kernel_rfl
  c37 := by kernel_rfl
  c46 := by kernel_rfl
  c51 := by kernel_rfl
  c53 := by kernel_rfl
  c75 := by kernel_rfl
  c76 := by kernel_rfl
  c80 := by kernel_rfl
  c85 := by kernel_rfl
  c127 := by kernel_rfl
  c143 := by kernel_rfl
  c145 := by kernel_rfl
  c167 := by kernel_rfl
  c168 := by kernel_rfl
  c171 := by kernel_rfl
  c173 := by kernel_rfl
  c175 := by kernel_rfl
  c210 := by kernel_rfl
  c212 := by kernel_rfl
  c213 := by kernel_rfl
  c232 := by kernel_rfl
  c233 := by kernel_rfl }
end Go.Proofs
namespace Go.Proofs.YtjobbokjebhjgaaDoor
open Go.RowKit Go.Shelf

theorem var_below {w w' : World} {name : String} {cs : Array Value} (h : w.var? Tryd.prog name = some cs) (hb : Below w.heap.size w w') : w'.var? Tryd.prog name = some cs := by
  unfold World.var? at *
  cases hg : Tryd.prog.globalNamed name with
  | none => simp [hg] at h
  | some g =>
    simp only [hg, Option.bind_some] at h ⊢
    have hlt : g < w.heap.size := by
      rcases Nat.lt_or_ge g w.heap.size with h' | h'
      · exact h'
      · rw [Array.getElem?_eq_none h'] at h; simp at h
    rw [hb.block g hlt]
    exact h
/-- the errors that a number's reading ends in, and the table of decimals -/
structure Errs (w : World) : Prop where
  tab : Tab w
  syn : ∃ t p, w.var? Tryd.prog "strconv.ErrSyntax" = some #[.iface t p]
  rng : ∃ t p, w.var? Tryd.prog "strconv.ErrRange" = some #[.iface t p]
theorem Errs.below {w w' : World} (h : Errs w) (hb : Below w.heap.size w w') : Errs w' := by
  obtain ⟨h1, ⟨t, p, h2⟩, ⟨t', p', h3⟩⟩ := h
  exact ⟨h1.below hb, ⟨t, p, var_below h2 hb⟩, ⟨t', p', var_below h3 hb⟩⟩
theorem Errs.drew {w : World} (h : Errs w) : Errs w.drew := h.below (Below.refl _ _).drew
def AtoiRet (l : List UInt8) (w : World) (e : Ending) (w' : World) : Prop :=
  ((∃ v, Lib.atoiAll l = .ok v ∧ -9223372036854775808 ≤ v ∧ v ≤ 9223372036854775807 ∧ e = .returned (.tuple #[.int .i64 v, .nilIface])) ∨ ((∀ v, Lib.atoiAll l ≠ .ok v) ∧ ∃ (n : Int) (tp : TypeId) (p : Value), e = .returned (.tuple #[.int .i64 n, .iface tp p]))) ∧ Below w.heap.size w w'
theorem atoi_any (s : ByteArray) (w : World) (hs : s.size ≤ 1000000) (hE : Errs w) : Calls Tryd.prog 19 #[.string s] w (AtoiRet s.data.toList w) := by
  obtain ⟨_, ⟨t, p, h2⟩, ⟨t', p', h3⟩⟩ := hE
  cases h : Lib.atoiAll s.data.toList with
  | ok v =>
    have hb := Lib.atoiAll_bounds h
    refine (Any.strconv_Atoi_ok Tryd.lays172 s (by omega) v h w).mono fun e w' hx => ⟨.inl ⟨v, h, hb.1, hb.2, hx.1⟩, ?_⟩
    rcases hx.2 with rfl | ⟨t, rfl⟩
    · exact Below.refl _ _
    · exact Lib.bytesWorld_below _ _ _
  | range =>
    refine (Any.strconv_Atoi_range_var Tryd.lays172 s (by omega) h t' p' w h3).mono fun e w' hx => ?_
    obtain ⟨N, he, _, _, hb⟩ := hx
    exact ⟨.inr ⟨(fun v e2 => by rw [h] at e2; cases e2), _, _, _, he⟩, hb⟩
  | _ =>
    refine (Any.strconv_Atoi_syntax_var Tryd.lays172 s (by omega) h t p w h2).mono fun e w' hx => ?_
    obtain ⟨N, he, _, _, hb⟩ := hx
    exact ⟨.inr ⟨(fun v e2 => by rw [h] at e2; cases e2), _, _, _, he⟩, hb⟩
theorem width_pos (s : ByteArray) (pos : Nat) (h : pos < s.size) : 1 ≤ (Utf8.decode s pos).2 := by
  by_cases ha : (s[pos]'h).toNat < 128
  · rw [decode_ascii s pos h ha]
    exact Nat.le_refl _
  · exact (decode_high s pos h (by omega)).2
theorem own_iterAt {w : World} {b k size n : Nat} {e : TypeId} {v : Value} {xs : List Value} (h : w.ownsRow b e size v n xs) (hk : k < b) (s : ByteArray) (p : Nat) : (w.iterAt k s p).ownsRow b e size v n xs :=
  h.kept (row := some k) ⟨rfl, rfl, rfl, by rw [Lib.iterAt_size]; exact Nat.le_refl _, fun i _ hne => Lib.iterAt_other w k i s p (fun e => hne (by rw [e]))⟩ (.inr fun e => by have := (h.lt k e).1; omega)
theorem iterPos_at {w : World} {k : Nat} {s : ByteArray} {p : Nat} (h : w.heap[k]? = some (.stringIter s p)) : w.iterPos k = p := by simp [World.iterPos, h]
def W64 (l : List Int) : Prop := ∀ x ∈ l, -9223372036854775808 ≤ x ∧ x ≤ 9223372036854775807
theorem W64.wf {l : List Int} (h : W64 l) : intsWf l := fun i hi => h _ (by rw [List.getD_eq_getElem?_getD, List.getElem?_eq_getElem hi]; exact List.getElem_mem _)

set_option maxRecDepth 100000 in
set_option maxHeartbeats 8000000 in
theorem clauseRead_impl (s : ByteArray) (w : World) (hE : Errs w) :
    Calls Tryd.prog 10 #[.string s] w (ReadRet s.data.toList w) := by
  obtain ⟨i0, hi, hz0, hz1, hz2⟩ := info_parts infoInt
  by_cases hlong : 6000 < s.size
  · have hV := Lib.hid (readV_long (s := s.data.toList) hlong)
    have hlong2 : (6000 : Int) < (s.size : Int) := by omega
    go_enter Tryd.func10, Tryd.ntmps10
    go_wp2_with fail
    go_ret2
    exact ReadRet.no hV.out (World.ownsRow_nil _ _ _ _) (Below.refl _ _)
  have hs : s.size ≤ 6000 := by omega
  have hlong2 : ¬ (6000 : Int) < (s.size : Int) := by omega
  have hsl : Hid (s.data.toList.length = s.size) := rfl
  go_enter Tryd.func10, Tryd.ntmps10
  go_wp2_with fail
  go_loopw [4, 5] (fun o f wr => ∃ (pos a : Nat) (acc : List Int), f = .int .i64 a ∧ a ≤ pos ∧ acc.length ≤ 6000 ∧ acc.length ≤ pos ∧ wr.heap[w.heap.size]? = some (.stringIter s pos) ∧ Hid (JI s.data.toList acc a pos) ∧ Hid (W64 acc) ∧ wr.ownsRow (w.heap.size + 1) 3 1 o acc.length (acc.map (.int .i64)) ∧ Below w.heap.size w wr) (fun _ _ wr => s.size - wr.iterPos w.heap.size)
  case atStart =>
    refine ⟨0, 0, [], rfl, Nat.le_refl _, by simp, Nat.le_refl _, ?_, JI_start _, fun x hx => (by cases hx), World.ownsRow_nil _ _ _ _, (Below.refl _ w).alloc (Nat.le_refl _) _⟩
    exact World.iter_heap w s 0
  case round =>
    obtain ⟨pos, a, acc, rfl, ha, hac, hap, hit, hJ, hS, own, B⟩ := hrel
    have hsz : w.heap.size < wr.heap.size := (Array.getElem?_eq_some_iff.1 hit).1
    by_cases hp : pos < s.size
    · have hnx : ∀ ty, (Instr.next (.pointer (some ⟨w.heap.size, 0, none⟩)) true ty).run Tryd.prog wr = _ := fun ty => Lib.run_next_any_at wr w.heap.size s pos ty hit hp
      have hwd := width_pos s pos hp
      have hd1 := decode_le s pos
      have hasc : Hid ((s[pos]'hp).toNat < 128 → (Utf8.decode s pos).1 = (s[pos]'hp).toNat ∧ (Utf8.decode s pos).2 = 1) := fun h => by rw [decode_ascii s pos hp h]; exact ⟨rfl, rfl⟩
      have hit2 := Lib.iterAt_heap wr w.heap.size s pos (pos + (Utf8.decode s pos).2) hit
      have B2 := Lib.below_iterAt B (k := w.heap.size) (Nat.le_refl _) s (pos + (Utf8.decode s pos).2)
      have own2 := own_iterAt own (k := w.heap.size) (Nat.lt_succ_self _) s (pos + (Utf8.decode s pos).2)
      have hsz2 : w.heap.size < (wr.iterAt w.heap.size s (pos + (Utf8.decode s pos).2)).heap.size := by rw [Lib.iterAt_size]; omega
      have hms : Hid (s.size - (pos + (Utf8.decode s pos).2) < s.size - wr.iterPos w.heap.size) := by
        show _ < _
        simp only [World.iterPos, hit]; omega
      generalize hw2 : wr.iterAt w.heap.size s (pos + (Utf8.decode s pos).2) = w2 at *
      clear hw2 hit own B hsz
      have hE2 := hE.below B2
      generalize hrn : (Utf8.decode s pos).1 = rn at *
      generalize hwn : (Utf8.decode s pos).2 = wn at *
      clear hrn hwn
      have ha2 : (a : Int) ≤ (pos : Int) := by omega
      have hp2 : (pos : Int) ≤ (s.size : Int) := by omega
      have hlp : pos < s.data.toList.length := by rw [hsl.out]; exact hp
      by_cases h32 : rn = 32
      · have i32 : (((rn : Nat) : Int) != 32) = false := by rw [h32]; rfl
        have hdec : Hid ((s.data.toList[pos]'hlp).toNat < 128 → s.data.toList[pos]'hlp = 32 ∧ pos + wn = pos + 1) := fun h => by
          obtain ⟨h1, h2⟩ := hasc.out h
          exact ⟨byte_eq (h1.symm.trans h32), by rw [h2]⟩
        have hJN := Lib.hid (fun v hv => JI_num hJ.out hlp hdec.out hv (v := v))
        have hJB := Lib.hid (fun hv => JI_bad hJ.out hlp (fun h => (hdec.out h).1) hv)
        have N := Lib.hid (atoi_any (s.extract a pos) w2 (by rw [← size_list, ext_list]; simp; omega) hE2)
        clear hasc hJ h32 hdec
        go_wp2_with fail
        refine N.out.mono ?_; rintro e w3 ⟨hr, hb3⟩
        clear N
        rw [ext_list] at hr
        rcases hr with ⟨v, hv, v0, v1, rfl⟩ | ⟨hv, n, tp, p, rfl⟩
        · have hJ2 := Lib.hid (hJN.out v hv)
          clear hJN hJB hv hnx
          have own3 := own_keep2 own2 hb3
          have B3 := B2.trans (hb3.mono B2.size)
          have hit3 : w3.heap[w.heap.size]? = some (.stringIter s (pos + wn)) := (hb3.block _ hsz2).trans hit2
          have hsz3 : w.heap.size < w3.heap.size := Nat.lt_of_lt_of_le hsz2 hb3.size
          clear own2 B2 hit2 hsz2 hb3
          go_wp2_with (at_builtin; refine wpList_append_own _ rfl _ _ 22 rfl (w.heap.size + 1) 3 i0 (.int .i64 0) 1 8 Tryd.underlying22 hi hz0 hz1 hz2 rfl (by decide) _ _ _ rfl (own3.alloc _) ⟨w3.heap.size, 0, none⟩ 1 1 [Value.int .i64 v] rfl rfl (cell_new_one _ _ _) (one_new_int _) (by unfold maxLen; omega) (by omega) (by simp; omega) ?_; intro v2 w4 own4 hg2 _; refine Hid.out ?_)
          refine Lib.hid ?_
          have B4 : Below w.heap.size w w4 := (below_step B3 _).grown hg2 (by simp; omega) (fun k hk => by have := (own3.lt k hk).1; omega)
          have hit4 : w4.heap[w.heap.size]? = some (.stringIter s (pos + wn)) := (hg2.block _ (by simp; omega) (fun e => by have := (own3.lt _ e.symm).1; omega)).trans ((heap_alloc_old w3 _ hsz3).trans hit3)
          have own5 : w4.ownsRow (w.heap.size + 1) 3 1 v2 (acc ++ [v]).length ((acc ++ [v]).map (.int .i64)) := by
            have e1 : acc.map (Value.int .i64) ++ [Value.int .i64 v] = (acc ++ [v]).map (.int .i64) := by simp
            have e2 : acc.length + 1 = (acc ++ [v]).length := by simp
            rw [← e1, ← e2]; exact own4
          have hS2 : Hid (W64 (acc ++ [v])) := fun x hx => by
            rcases List.mem_append.1 hx with hx | hx
            · exact hS.out x hx
            · rw [List.mem_singleton.1 hx]; exact ⟨v0, v1⟩
          clear own3 own4 hg2 hS hit3 hsz3 B3
          go_wp2_with fail
          exact ⟨⟨pos + wn, pos + 1, acc ++ [v], by go_num, by omega, by simp; omega, by simp; omega, hit4, hJ2, hS2, own5, B4⟩, by rw [iterPos_at hit4]; exact hms.out⟩
        · have hV := Lib.hid (hJB.out hv)
          clear hJN hJB hv hnx
          go_wp2_with fail
          go_ret2
          exact ReadRet.no hV.out (World.ownsRow_nil _ _ _ _) (B2.trans (hb3.mono B2.size))
      · have i32 : (((rn : Nat) : Int) != 32) = true := by rw [bne_iff_ne]; omega
        have hJ2 : Hid (JI s.data.toList acc a (pos + wn)) := JI_skip hJ.out ha hlp (fun h => by
          obtain ⟨h1, h2⟩ := hasc.out h
          exact ⟨(fun e => h32 (by rw [h1]; show (s.data.toList[pos]'hlp).toNat = 32; rw [e]; rfl)), by rw [h2]⟩)
        clear hasc hJ h32
        go_wp2_with fail
        exact ⟨⟨pos + wn, a, acc, rfl, by omega, hac, by omega, hit2, hJ2, hS, own2, B2⟩, by rw [iterPos_at hit2]; exact hms.out⟩
    · have hnx : ∀ ty, (Instr.next (.pointer (some ⟨w.heap.size, 0, none⟩)) true ty).run Tryd.prog wr = _ := fun ty => Lib.run_next_end_at wr w.heap.size s pos ty hit hp
      have hEn := Lib.hid (JI_end hJ.out (by rw [hsl.out]; omega))
      have hE2 := hE.below B
      have own2 := own_base own (Nat.le_succ _)
      clear hJ hit
      by_cases h0 : s.size = 0
      · have hV : Hid (readV s.data.toList = ([], false)) := by
          have : s.data.toList = [] := List.length_eq_zero_iff.1 (by rw [size_list]; exact h0)
          show _ = _
          rw [this]; exact readV_empty
        have he : s.toList.isEmpty = true := by rw [ByteArray.toList_eq, List.isEmpty_iff]; exact List.length_eq_zero_iff.1 (by rw [size_list]; exact h0)
        clear h0 hEn
        go_wp2_with fail
        go_ret2
        exact ReadRet.no hV.out (World.ownsRow_nil _ _ _ _) B
      · have hne : s.data.toList ≠ [] := fun e => h0 (by rw [← size_list, e]; rfl)
        have he : s.toList.isEmpty = false := by rw [ByteArray.toList_eq, ← Bool.not_eq_true, List.isEmpty_iff]; exact hne
        have hV := Lib.hid (readV_end hEn.out hne)
        have D := Lib.hid (clauseText_impl _ acc wr (Ints.of_own own) hS.out.wf hE2.tab)
        by_cases hz : ctxV acc = s
        · have hv := Lib.hid (hV.out.1 hz)
          rw [hz] at D
          clear hEn hz hne h0 hV own
          go_wp2_with fail
          refine D.out.mono ?_; rintro e w2 ⟨rfl, hb2⟩
          clear D hnx
          replace own2 := own_keep2 own2 hb2
          replace B := B.trans (hb2.mono B.size)
          go_wp2_with fail
          go_ret2
          exact ReadRet.yes hv.out own2 B
        · have hv := Lib.hid (hV.out.2 hz)
          have hz2 := str_ne hz
          generalize ctxV acc = z at *
          clear hEn hz hne h0 hV own
          go_wp2_with fail
          refine D.out.mono ?_; rintro e w2 ⟨rfl, hb2⟩
          clear D hnx
          replace B := B.trans (hb2.mono B.size)
          go_wp2_with fail
          go_ret2
          exact ReadRet.no hv.out (World.ownsRow_nil _ _ _ _) B
end Go.Proofs.YtjobbokjebhjgaaDoor
