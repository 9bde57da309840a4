/- ClauseText of the reference and of the program: a clause's numbers in decimals. The conditions stand in each statement. -/
import Derived.Test.YtjobbokjebhjgaaDoorYa
import Derived.Shelf.Strconv.AppendIntPublic10
import Derived.Lib.AppendIntMem
import Derived.Lib.ItoaLen
import Derived.Lib.Slices
import Derived.OwnWalk
namespace Go.Proofs
open Go.Shelf
def Tryd.lays176_ren : Go.Shelf.Ren := ⟨fun | 176 => 16 | 249 => 23 | 288 => 27 | 283 => 33 | 284 => 34 | 285 => 35 | 286 => 36 | 129 => 42 | 317 => 41 | 318 => 43 | 319 => 44 | 320 => 45 | 337 => 49 | 338 => 50 | n => n, fun | 37 => 33 | 2 => 2 | 3 => 3 | 53 => 49 | 4 => 4 | 9 => 9 | 171 => 57 | 0 => 0 | 173 => 60 | 212 => 70 | 51 => 71 | 5 => 5 | 20 => 20 | 213 => 72 | 46 => 64 | 232 => 81 | 233 => 82 | n => n, fun | 17 => 2 | 18 => 3 | 19 => 4 | n => n⟩
theorem Tryd.lays176 : Go.Proofs.LaysM.n176 Tryd.prog Tryd.lays176_ren := {
  mixed := by kernel_rfl
  f129 := Tryd.func42.trans (congrArg some (by kernel_rfl))
  f176 := Tryd.func16.trans (congrArg some (by kernel_rfl))
  f249 := Tryd.func23.trans (congrArg some (by kernel_rfl))
  f283 := Tryd.func33.trans (congrArg some (by kernel_rfl))
  f284 := Tryd.func34.trans (congrArg some (by kernel_rfl))
  f285 := Tryd.func35.trans (congrArg some (by kernel_rfl))
  f286 := Tryd.func36.trans (congrArg some (by kernel_rfl))
  f288 := Tryd.func27.trans (congrArg some (by kernel_rfl))
  f317 := Tryd.func41.trans (congrArg some (by kernel_rfl))
  f318 := Tryd.func43.trans (congrArg some (by kernel_rfl))
  f319 := Tryd.func44.trans (congrArg some (by kernel_rfl))
  f320 := Tryd.func45.trans (congrArg some (by kernel_rfl))
  f337 := Tryd.func49.trans (congrArg some (by kernel_rfl))
  f338 := Tryd.func50.trans (congrArg some (by kernel_rfl))
  t0 := Tryd.underlying0
  a0 := Tryd.isAgg0
  z0 := Tryd.sizeOf0
  v0 := Tryd.zeroValue0
  t2 := Tryd.underlying2
  a2 := Tryd.isAgg2
  z2 := Tryd.sizeOf2
  v2 := Tryd.zeroValue2
  t3 := Tryd.underlying3
  a3 := Tryd.isAgg3
  z3 := Tryd.sizeOf3
  v3 := Tryd.zeroValue3
  t4 := Tryd.underlying4
  a4 := Tryd.isAgg4
  z4 := Tryd.sizeOf4
  v4 := Tryd.zeroValue4
  t5 := Tryd.underlying5
  a5 := Tryd.isAgg5
  z5 := Tryd.sizeOf5
  v5 := Tryd.zeroValue5
  t9 := Tryd.underlying9
  a9 := Tryd.isAgg9
  z9 := Tryd.sizeOf9
  v9 := Tryd.zeroValue9
  t20 := Tryd.underlying20
  a20 := Tryd.isAgg20
  z20 := Tryd.sizeOf20
  v20 := Tryd.zeroValue20
  t37 := Tryd.underlying33
  a37 := Tryd.isAgg33
  z37 := Tryd.sizeOf33
  v37 := Tryd.zeroValue33
  t46 := Tryd.underlying64
  a46 := Tryd.isAgg64
  z46 := Tryd.sizeOf64
  v46 := Tryd.zeroValue64
  t51 := Tryd.underlying71
  a51 := Tryd.isAgg71
  z51 := Tryd.sizeOf71
  v51 := Tryd.zeroValue71
  t53 := Tryd.underlying49
  a53 := Tryd.isAgg49
  z53 := Tryd.sizeOf49
  v53 := Tryd.zeroValue49
  t171 := Tryd.underlying57
  a171 := Tryd.isAgg57
  z171 := Tryd.sizeOf57
  v171 := Tryd.zeroValue57
  t173 := Tryd.underlying60
  a173 := Tryd.isAgg60
  z173 := Tryd.sizeOf60
  v173 := Tryd.zeroValue60
  t212 := Tryd.underlying70
  a212 := Tryd.isAgg70
  z212 := Tryd.sizeOf70
  v212 := Tryd.zeroValue70
  t213 := Tryd.underlying72
  a213 := Tryd.isAgg72
  z213 := Tryd.sizeOf72
  t232 := Tryd.underlying81
  a232 := Tryd.isAgg81
  z232 := Tryd.sizeOf81
  v232 := Tryd.zeroValue81
  t233 := Tryd.underlying82
  a233 := Tryd.isAgg82
  z233 := Tryd.sizeOf82
  v233 := Tryd.zeroValue82
  g17 := by kernel_rfl
  g18 := by kernel_rfl
  g19 := by kernel_rfl
  i0 := by kernel_rfl
  i2 := by kernel_rfl
  i3 := by kernel_rfl
  i4 := by kernel_rfl
  i5 := by kernel_rfl
  i9 := by kernel_rfl
  i20 := by kernel_rfl
  i37 := by kernel_rfl
  i46 := by kernel_rfl
  i51 := by kernel_rfl
  i53 := by kernel_rfl
  i171 := by kernel_rfl
  i173 := by kernel_rfl
  i212 := by kernel_rfl
  i232 := by kernel_rfl
  i233 := by kernel_rfl
  m17 := by kernel_rfl
  m18 := by kernel_rfl
  m19 := by kernel_rfl }
end Go.Proofs
namespace Go.Proofs.YtjobbokjebhjgaaDoor
open Go.RowKit Go.Shelf

theorem byte_of {n : Nat} (h : n ≤ 9) : (48 : UInt8) + UInt8.ofNat n = UInt8.ofNat (48 + n) := by
  have : n = 0 ∨ n = 1 ∨ n = 2 ∨ n = 3 ∨ n = 4 ∨ n = 5 ∨ n = 6 ∨ n = 7 ∨ n = 8 ∨ n = 9 := by omega
  rcases this with rfl | rfl | rfl | rfl | rfl | rfl | rfl | rfl | rfl | rfl <;> rfl
theorem dg_dec (n : Nat) : dg n = Lib.decDigits n := by
  induction n using Nat.strongRecOn with
  | _ n ih =>
    rw [Lib.decDigits]
    by_cases h : n < 10
    · rw [dif_pos h, dg_small (by omega), byte_of (by omega)]
    · rw [dif_neg h, dg_big (by omega), ih (n / 10) (by omega), byte_of (by omega)]

/-- a clause's numbers, a space behind each -/
def ctx (l : List Int) : List UInt8 := l.flatMap fun x => Lib.itoa x ++ [32]
theorem ctx_snoc {l : List Int} {k : Nat} (h : k < l.length) : ctx (l.take (k + 1)) = ctx (l.take k) ++ (Lib.itoa (l.getD k 0) ++ [32]) := by
  unfold ctx
  rw [List.take_succ_eq_append_getElem h, List.flatMap_append, List.getD_eq_getElem?_getD, List.getElem?_eq_getElem h]
  simp
theorem ctx_len : ∀ (l : List Int), (∀ x ∈ l, -1000000 ≤ x ∧ x ≤ 1000000) → (ctx l).length ≤ 22 * l.length
  | [], _ => Nat.le_refl _
  | x :: l, h => by
    have h1 := Lib.itoa_length_le x (by have := h x (by simp); omega) (by have := h x (by simp); omega)
    have h2 := ctx_len l (fun y hy => h y (by simp [hy]))
    unfold ctx at h2 ⊢
    rw [List.flatMap_cons, List.length_append, List.length_append, List.length_cons, List.length_cons, List.length_nil]
    omega
def ctxt (l : List Int) : List UInt8 := ctx l ++ [48]
/-- what ClauseText answers -/
def ctxV (l : List Int) : ByteArray := if okFrom 700 0 l = true then ⟨(ctxt l).toArray⟩ else ⟨#[]⟩
theorem okFrom_len : ∀ (l : List Int) (m L : Int), okFrom m L l = true → 0 ≤ L → l = [] ∨ L + l.length ≤ m
  | [], _, _, _, _ => .inl rfl
  | x :: l, m, L, h, h0 => by
    rcases okFrom_cons h.symm with ⟨h1, h2, h3, h4⟩ | ⟨_, h4⟩
    · right
      have hm := mabs_le h1 h2
      rcases okFrom_len l m (mabs x) h4.symm (by omega) with rfl | h5
      · simp; omega
      · simp; omega
    · cases h4
theorem okFrom_mem : ∀ (l : List Int) (m L : Int), okFrom m L l = true → 0 ≤ L → ∀ x ∈ l, -m ≤ x ∧ x ≤ m ∧ x ≠ 0
  | [], _, _, _, _ => fun x hx => by cases hx
  | x :: l, m, L, h, h0 => by
    rcases okFrom_cons h.symm with ⟨h1, h2, h3, h4⟩ | ⟨_, h4⟩
    · have hm := mabs_le h1 h2
      intro y hy
      rcases List.mem_cons.1 hy with rfl | hy
      · refine ⟨h1, h2, ?_⟩
        rintro rfl
        simp [mabs] at h3
        omega
      · exact okFrom_mem l m (mabs x) h4.symm (by omega) y hy
    · cases h4
theorem ok_short {l : List Int} (h : okFrom 700 0 l = true) : l.length ≤ 700 := by
  rcases okFrom_len l 700 0 h (by omega) with rfl | h1
  · simp
  · omega
theorem ok_ctx {l : List Int} (h : okFrom 700 0 l = true) (k : Nat) : (ctx (l.take k)).length ≤ 15400 := by
  have h1 := ctx_len (l.take k) (fun x hx => by have := okFrom_mem l 700 0 h (by omega) x (List.mem_of_mem_take hx); omega)
  have h2 := ok_short h
  have : (l.take k).length ≤ l.length := List.length_take_le' _ _
  omega
theorem ok_at {l : List Int} (h : okFrom 700 0 l = true) {k : Nat} (hk : k < l.length) : -700 ≤ l.getD k 0 ∧ l.getD k 0 ≤ 700 := by
  have := okFrom_mem l 700 0 h (by omega) (l.getD k 0) (by rw [List.getD_eq_getElem?_getD, List.getElem?_eq_getElem hk]; exact List.getElem_mem _)
  exact ⟨this.1, this.2.1⟩

set_option maxHeartbeats 1000000 in
theorem l12Dec_any (x : Int) (w : World) (h0 : -1000000 ≤ x) (h1 : x ≤ 1000000) :
    Calls Tryd.prog 14 #[.int .i64 x] w fun e w' => e = .returned (.string ⟨(Lib.itoa x).toArray⟩) ∧ Below w.heap.size w w' := by
  by_cases h : x < 0
  · have e : Lib.itoa x = 45 :: dg x.natAbs := by rw [Lib.itoa, if_pos h, dg_dec]
    have C : Hid (∀ w, Calls Tryd.prog 14 #[.int .i64 (-x)] w fun e w' => e = .returned (.string ⟨(dg x.natAbs).toArray⟩) ∧ Below w.heap.size w w') := fun w => by
      rw [show (-x : Int) = ((x.natAbs : Nat) : Int) by omega]; exact l12Dec_nat _ w (by omega)
    have hl := dg_len 19 x.natAbs (by omega)
    rw [e]; clear e
    generalize dg x.natAbs = D at *
    go_enter Tryd.func14, Tryd.ntmps14
    go_wp2_with fail
    refine (C.out _).mono ?_; rintro e w1 ⟨rfl, hb⟩
    go_wp2_with fail
    go_ret
    exact ⟨by rw [← bytes_cons]; rfl, hb⟩
  · have e : Lib.itoa x = dg x.toNat := by rw [Lib.itoa, if_neg h, dg_dec]
    rw [e]
    have := l12Dec_nat x.toNat w (by omega)
    rwa [show ((x.toNat : Nat) : Int) = x by omega] at this

set_option maxHeartbeats 4000000 in
theorem clauseText_spec (c : Value) (l : List Int) (w : World) (h : Ints w c l) :
    Calls Tryd.prog 5 #[c] w fun e w' => e = .returned (.string (ctxV l)) ∧ Below w.heap.size w w' := by
  have C := l4Clause_any c l 700 w h (by omega) (by omega)
  obtain ⟨a, cap, rfl, hr⟩ := h
  cases hz : okFrom 700 0 l
  · have e : ctxV l = ⟨#[]⟩ := by simp [ctxV, hz]
    rw [e]; clear e
    rw [hz] at C; clear hz
    have C := Lib.hid C
    go_enter Tryd.func5, Tryd.ntmps5
    go_wp2_with fail
    refine C.out.mono ?_; rintro e w1 ⟨rfl, m, rfl⟩
    go_wp2_with fail
    go_ret
    exact ⟨rfl, below_drewN (Below.refl _ _) _⟩
  · have e : ctxV l = ⟨(ctx (l.take l.length) ++ [48]).toArray⟩ := by simp [ctxV, hz, ctxt]
    rw [e]; clear e
    rw [hz] at C
    have C := Lib.hid C
    have hl := ok_short hz
    have HZ := Lib.hid hz
    clear hz
    go_enter Tryd.func5, Tryd.ntmps5
    go_wp2_with fail
    refine C.out.mono ?_; rintro e w1 ⟨rfl, m, rfl⟩
    have B0 := below_drewN (Below.refl w.heap.size w) m
    generalize w.drewN m = w1 at *
    clear C
    go_wp2_with fail
    go_loopw [3, 4] (fun o i wr => ∃ k : Nat, k ≤ l.length ∧ i = .int .i64 k ∧ o = .string ⟨(ctx (l.take k)).toArray⟩ ∧ Below w.heap.size w wr) (fun _ i _ => l.length - (intOf i).toNat)
    case atStart => exact ⟨0, Nat.zero_le _, rfl, rfl, B0⟩
    case round =>
      obtain ⟨k, hk, rfl, rfl, B⟩ := hrel
      clear B0
      have hT := ok_ctx HZ.out k
      by_cases hlt : k < l.length
      · obtain ⟨_, _, r3⟩ := hr.below B
        rcases r3 with r3 | ⟨b, off, rfl, r4, r5⟩
        · omega
        have r6 : wr.cell? ⟨b, off + k, none⟩ = some (.int .i64 (l.getD k 0)) := r5 k hlt
        have hx := ok_at HZ.out hlt
        have hD := Lib.itoa_length_le (l.getD k 0) (by omega) (by omega)
        have N : Hid ((⟨(ctx (l.take k)).toArray⟩ : ByteArray) ++ ⟨(Lib.itoa (l.getD k 0)).toArray⟩ ++ ⟨#[32]⟩ = ⟨(ctx (l.take (k + 1))).toArray⟩) := by
          show _ = _
          rw [ctx_snoc hlt, bytes_cat (ctx (l.take k)) (Lib.itoa (l.getD k 0)), ← List.append_assoc]
          exact bytes_cat _ [32]
        clear r5 hr
        have D : Hid (∀ w', Calls Tryd.prog 14 #[.int .i64 (l.getD k 0)] w' fun e w2 => e = .returned (.string ⟨(Lib.itoa (l.getD k 0)).toArray⟩) ∧ Below w'.heap.size w' w2) := fun w' => l12Dec_any _ w' (by omega) (by omega)
        generalize ctx (l.take k) = T at *
        generalize l.getD k 0 = x at *
        generalize Lib.itoa x = I at *
        have hk1 : (k : Int) < (l.length : Int) := by omega
        go_wp2_with fail
        refine (D.out _).mono ?_; rintro e w2 ⟨rfl, hb⟩
        go_wp2_with fail
        exact ⟨⟨k + 1, by omega, by go_num, by rw [N.out], below_two B hb⟩, by simp [intOf]; omega⟩
      · obtain rfl : k = l.length := by omega
        obtain ⟨T, hT0⟩ : ∃ T, T = ctx (l.take l.length) := ⟨_, rfl⟩
        rw [← hT0] at hT ⊢
        have N := Lib.hid hT0
        clear hT0
        go_wp2_with fail
        go_ret
        exact ⟨by rw [← N.out]; rfl, B⟩

theorem infoByte : (Tryd.prog.info? 5).map (fun i => (i.zero, i.size, i.bytes)) = some (some (.int .u8 0), 1, 1) := by kernel_rfl
theorem cell_new_byte (w : World) (x : Value) (t : TypeId) : ∀ (j : Nat) (u : Value), [x][j]? = some u → (w.alloc (.cells #[x] t)).cell? ((⟨w.heap.size, 0, none⟩ : Addr).add j) = some u := by
  intro j u hj
  match j, hj with
  | 0, hj => simp at hj; subst hj; simp [Addr.add]
theorem one_new_byte (x : Int) : ∀ u ∈ [Value.int .u8 x], u.oneCell' = true := by
  intro u hu; simp at hu; subst hu; rfl
theorem appendInt_any (B n : Nat) (i : Int) (h0 : -1000000 ≤ i) (h1 : i ≤ 1000000) (sv : Value) (xs : List Value) (w : World) (hown : w.ownsRow B 5 1 sv n xs) (hBw : B ≤ w.heap.size) (hlim : n ≤ 1000000)
    (htab : Lib.TabBelow Tryd.prog B w "internal/strconv.uint64pow10" .u64 Lib.pow10Tab) :
    Calls Tryd.prog 16 #[sv, .int .i64 i, .int .i64 10] w fun e w' => ∃ v', e = .returned v' ∧ w'.ownsRow B 5 1 v' (n + (Lib.itoa i).length) (xs ++ Lib.byteCells (Lib.itoa i)) ∧ Below B w w' :=
  (Any.strconv_AppendInt_10 Tryd.lays176 B n i (by omega) (by omega) sv xs w hown hBw (by omega) htab).mono fun _ _ ⟨v', h1, h2, h3, _⟩ => ⟨v', h1, h2, h3⟩

/-- the table that the decimals are read by -/
def Tab (w : World) : Prop := Lib.TabIs Tryd.prog w "internal/strconv.uint64pow10" .u64 Lib.pow10Tab
theorem Tab.below {w w' : World} (h : Tab w) (hb : Below w.heap.size w w') : Tab w' := ((Lib.tabBelow_of_tabIs h).on hb).here
theorem Tab.drew {w : World} (h : Tab w) : Tab w.drew := h

set_option maxHeartbeats 8000000 in
theorem clauseText_impl (c : Value) (l : List Int) (w : World) (h : Ints w c l) (hwf : intsWf l) (htab : Tab w) :
    Calls Tryd.prog 7 #[c] w fun e w' => e = .returned (.string (ctxV l)) ∧ Below w.heap.size w w' := by
  have C := clauseOk_any c l 700 w h hwf (by omega) (by omega)
  obtain ⟨i0, hi, hz0, hz1, hz2⟩ := info_parts infoByte
  have hTB := Lib.hid (Lib.tabBelow_of_tabIs htab)
  have hcl := h.len
  obtain ⟨a, cap, rfl, hr⟩ := h
  clear htab hwf
  cases hz : okFrom 700 0 l
  · have e : ctxV l = ⟨#[]⟩ := by simp [ctxV, hz]
    rw [e]; clear e
    rw [hz] at C; clear hz
    have C := Lib.hid C
    go_enter Tryd.func7, Tryd.ntmps7
    go_wp2_with fail
    refine C.out.mono ?_; rintro e w1 ⟨rfl, rfl⟩
    go_wp2_with fail
    go_ret
    exact ⟨rfl, Below.refl _ _⟩
  · have e : ctxV l = ⟨(ctx (l.take l.length) ++ [48]).toArray⟩ := by simp [ctxV, hz, ctxt]
    rw [e]; clear e
    rw [hz] at C
    have C := Lib.hid C
    have hl := ok_short hz
    have HZ := Lib.hid hz
    clear hz
    go_enter Tryd.func7, Tryd.ntmps7
    go_wp2_with fail
    refine C.out.mono ?_; rintro e w1 ⟨rfl, rfl⟩
    clear C
    go_wp2_with fail
    go_loopw [3, 11] (fun o i wr => ∃ (k : Nat) (v : Value), k ≤ l.length ∧ i = .int .i64 k ∧ o = v ∧ wr.ownsRow w.heap.size 5 1 v (ctx (l.take k)).length (Lib.byteCells (ctx (l.take k))) ∧ Below w.heap.size w wr) (fun _ i _ => l.length - (intOf i).toNat)
    case atStart => exact ⟨0, _, Nat.zero_le _, rfl, rfl, World.ownsRow_nil _ _ _ _, Below.refl _ _⟩
    case round =>
      obtain ⟨k, v, hk, rfl, rfl, own, B⟩ := hrel
      have hT := ok_ctx HZ.out k
      have hBw := B.size
      have HT := Lib.hid (hTB.out.on B)
      by_cases hlt : k < l.length
      · obtain ⟨_, _, r3⟩ := hr.below B
        rcases r3 with r3 | ⟨b, off, rfl, r4, r5⟩
        · omega
        have r6 : wr.cell? ⟨b, off + k, none⟩ = some (.int .i64 (l.getD k 0)) := r5 k hlt
        have hx := ok_at HZ.out hlt
        have hD := Lib.itoa_length_le (l.getD k 0) (by omega) (by omega)
        have N : Hid (ctx (l.take (k + 1)) = ctx (l.take k) ++ Lib.itoa (l.getD k 0) ++ [32]) := by
          show _ = _
          rw [ctx_snoc hlt, List.append_assoc]
        clear r5 hr
        generalize ctx (l.take k) = T at *
        generalize l.getD k 0 = x at *
        have hk1 : (k : Int) < (l.length : Int) := by omega
        go_wp2_with (go_at_call 16; refine (appendInt_any w.heap.size T.length x (by omega) (by omega) _ _ wr own hBw (by omega) HT.out).mono ?_; rintro e w1 ⟨v1, rfl, own1, hb1⟩; refine Hid.out ?_)
        refine Lib.hid ?_
        have B1 := B.trans hb1
        have z1 := B1.size
        have hI : (Lib.itoa x).length ≤ 21 := by omega
        go_wp2_with (at_builtin; refine wpList_append_own _ rfl _ _ 33 rfl w.heap.size 5 i0 (.int .u8 0) 1 1 Tryd.underlying33 hi hz0 hz1 hz2 rfl (by decide) _ _ _ rfl (own1.alloc _) ⟨w1.heap.size, 0, none⟩ 1 1 [Value.int .u8 32] rfl rfl (cell_new_byte _ _ _) (one_new_byte _) (by unfold maxLen; omega) (by omega) (by simp; omega) ?_; intro v2 w2 own2 hg2 _; refine Hid.out ?_)
        refine Lib.hid ?_
        have B2 : Below w.heap.size w w2 := (below_step B1 _).grown hg2 (by simp; omega) (fun k hk => (own1.lt k hk).1)
        have own3 : w2.ownsRow w.heap.size 5 1 v2 (ctx (l.take (k + 1))).length (Lib.byteCells (ctx (l.take (k + 1)))) := by
          rw [N.out]
          have e1 : Lib.byteCells T ++ Lib.byteCells (Lib.itoa x) ++ [Value.int .u8 32] = Lib.byteCells (T ++ Lib.itoa x ++ [32]) := by simp [Lib.byteCells]
          have e2 : T.length + (Lib.itoa x).length + 1 = (T ++ Lib.itoa x ++ [32]).length := by simp; omega
          rw [← e1, ← e2]; exact own2
        clear own own1 own2 hg2 hb1 N HT
        go_wp2_with fail
        exact ⟨⟨k + 1, _, by omega, by go_num, rfl, own3, B2⟩, by simp [intOf]; omega⟩
      · obtain rfl : k = l.length := by omega
        obtain ⟨T, hT0⟩ : ∃ T, T = ctx (l.take l.length) := ⟨_, rfl⟩
        rw [← hT0] at hT own
        have N := Lib.hid hT0
        clear hr hT0
        go_wp2_with (at_builtin; refine wpList_append_own _ rfl _ _ 33 rfl w.heap.size 5 i0 (.int .u8 0) 1 1 Tryd.underlying33 hi hz0 hz1 hz2 rfl (by decide) _ _ _ rfl (own.alloc _) ⟨wr.heap.size, 0, none⟩ 1 1 [Value.int .u8 48] rfl rfl (cell_new_byte _ _ _) (one_new_byte _) (by unfold maxLen; omega) (by omega) (by simp; omega) ?_; intro v2 w2 own2 hg2 _; refine Hid.out ?_)
        refine Lib.hid ?_
        have B2 : Below w.heap.size w w2 := (below_step B _).grown hg2 (by simp; omega) (fun k hk => (own.lt k hk).1)
        have e1 : Lib.byteCells T ++ [Value.int .u8 48] = Lib.byteCells (T ++ [48]) := by simp [Lib.byteCells]
        have e2 : T.length + 1 = (T ++ [48]).length := by simp
        rw [e1, e2] at own2
        have hpos : 0 < (T ++ [48]).length := by simp
        have hT2 : (T ++ [48]).length ≤ 15401 := by simp; omega
        clear e1 e2 own hT
        obtain ⟨T2, hT3⟩ : ∃ T2, T2 = T ++ [48] := ⟨_, rfl⟩
        rw [← hT3] at own2 hpos hT2
        have N2 := Lib.hid hT3
        clear hT3
        rcases own2.2 with ⟨-, h0⟩ | ⟨g, cap, cur, rfl, -, -, -, -, -, -⟩
        · omega
        have hcv := run_convert_bytes_back (P := Tryd.prog) w2 33 9 5 ⟨g, 0, none⟩ cap T2 Tryd.underlying33 Tryd.underlying5 Tryd.underlying9 (fun j hj => own2.cells (g := g) rfl j _ (by simp [Lib.byteCells, hj]))
        go_wp2
        go_ret
        exact ⟨by rw [← N.out, ← N2.out]; rfl, B2⟩
end Go.Proofs.YtjobbokjebhjgaaDoor
