/- l2Text of the reference. The conditions stand in each statement. -/
import Derived.Test.YtfkanemjedndgaaGreatDoorTy
import Derived.Test.YtfkanemjedndgaaGreatDoorKn
namespace Go.Proofs.YtfkanemjedndgaaGreatDoor
open Go.RowKit

theorem words_at {i : Nat} (hi : i < 28) : (words.map Value.string)[i]? = some (.string (wordB i)) := by
  have hl : words.length = 28 := rfl
  rw [List.getElem?_map, List.getElem?_eq_getElem (by omega)]
  unfold wordB
  rw [Int.toNat_natCast, List.getD_eq_getElem?_getD, List.getElem?_eq_getElem (by omega)]
  rfl
theorem l2Words_any (w : World) : Calls Tryz.prog 27 #[] w fun e w' => ∃ b, e = .returned (.slice (some ⟨b, 0, none⟩) 28 28) ∧ (∀ i : Nat, i < 28 → w'.cell? ⟨b, i, none⟩ = some (.string (wordB i))) ∧ Below w.heap.size w w' := by
  go_enter Tryz.func27, Tryz.ntmps27
  go_wp2
  go_ret
  refine ⟨w.heap.size, rfl, fun i hi => ?_, below_self_alloc _ _⟩
  rw [World.cell?_alloc_new]
  have := words_at hi
  rw [← Array.getElem?_toList]
  exact this
theorem wordB_form (op : Int) : ∃ L : List UInt8, wordB op = ⟨L.toArray⟩ ∧ L = (wordB op).data.toList ∧ L.length ≤ 5 := ⟨_, rfl, rfl, wordB_len op⟩

theorem dec_dg {n : Nat} (h : n ≤ 9) : Lib.decDigits n = dg n := by
  rw [Lib.decDigits, dif_pos (by omega), dg_small h]
  have : n = 0 ∨ n = 1 ∨ n = 2 ∨ n = 3 ∨ n = 4 ∨ n = 5 ∨ n = 6 ∨ n = 7 ∨ n = 8 ∨ n = 9 := by omega
  rcases this with rfl | rfl | rfl | rfl | rfl | rfl | rfl | rfl | rfl | rfl <;> rfl
theorem cat_run {x y z : List UInt8} (h : x ++ y = z) (hl : x.length + y.length ≤ 1000) (wx : World) : (Op.stringOp .add ⟨x.toArray⟩ ⟨y.toArray⟩).run Tryz.prog wx = .ok (.string ⟨z.toArray⟩) wx := by
  rw [run_string_add_sum (P := Tryz.prog) (w := wx) _ _ (by show x.toArray.size + y.toArray.size ≤ _; simp; omega), bytes_cat, h]
theorem tail_take (sep : List UInt8) (ts : List (List UInt8)) (k : Nat) : (Lib.joinTail sep (ts.take k)).length ≤ (Lib.joinTail sep ts).length := by
  conv => rhs; rw [← List.take_append_drop k ts]
  unfold Lib.joinTail
  rw [List.map_append, List.flatten_append, List.length_append]
  exact Nat.le_add_right _ _
theorem sum_at (f : Nat → Nat) {k n : Nat} (h : k < n) : f k ≤ sumTo f n := by
  have := sumTo_mono f (show k + 1 ≤ n by omega)
  have e : sumTo f (k + 1) = sumTo f k + f k := rfl
  omega

def TextS (ds : List Dc) (d : Nat) : Prop := ∀ (op p q : Int) (nm : ByteArray) (s : Value) (ks : List Tm) (w : World), SIn d w s ks → SV1 ds op p q nm (kS ds d ks) ≠ -1 → NN d ks ≤ 20 →
  Calls Tryz.prog 15 #[.agg #[.int .i64 op, .int .i64 p, .int .i64 q, .string nm, s]] w fun e w' => e = .returned (.string ⟨(tx1 op p q nm (kT d ks)).toArray⟩) ∧ Below w.heap.size w w'

set_option linter.unusedVariables false in
set_option maxRecDepth 100000 in
set_option maxHeartbeats 8000000 in
theorem l2Text_step (ds : List Dc) (hdw : DW ds) (hdn : ∀ i, i < ds.length → (ds.getD i dz).1.size ≤ 4) (d : Nat) (IH : ∀ d', d = d' + 1 → TextS ds d') : TextS ds d := by
  intro op p q nm s ks w h hsv hnn
  obtain ⟨hkn, _, _, hk0, hsb⟩ := SV1_parts hsv
  have htl := tx_len hdw hdn d w s ks h op p q nm hsv
  have hkt := kT_len h
  obtain ⟨sa, sc, es, _⟩ := h.form
  subst es
  have K := below_self_alloc w (.cells #[.int .i64 op, .int .i64 p, .int .i64 q, .string nm, .slice sa ks.length sc] 33)
  have A := blk5_new w (.int .i64 op) (.int .i64 p) (.int .i64 q) (.string nm) (.slice sa ks.length sc) 33
  replace h := h.below K
  obtain ⟨A0, A1, A2, A3, A4, A5⟩ := A.cells
  by_cases h20 : op = 20
  · subst h20
    have e : (⟨(tx1 20 p q nm (kT d ks)).toArray⟩ : ByteArray) = vtxt p q := by rw [vtxt_eq]; rfl
    rw [e]
    have V := Lib.hid (fun w' => vecText_spec p q w')
    clear e htl hsv hk0 hsb IH
    go_enter Tryz.func15, Tryz.ntmps15
    go_wp2_with fail
    refine (V.out _).mono ?_; rintro e w1 ⟨rfl, hb⟩
    replace K := below_two K hb
    clear A0 A1 A2 A3 A4 A5
    go_wp2_with fail
    go_ret
    exact ⟨rfl, K⟩
  by_cases h21 : op = 21
  · subst h21
    have e : (⟨(tx1 21 p q nm (kT d ks)).toArray⟩ : ByteArray) = nm := by unfold tx1; rw [if_neg (by omega), if_pos rfl]
    rw [e]
    clear e htl hsv hk0 hsb IH
    go_enter Tryz.func15, Tryz.ntmps15
    go_wp2_with fail
    go_ret
    exact ⟨rfl, K⟩
  by_cases h24 : op = 24
  · subst h24
    have e : (⟨(tx1 24 p q nm (kT d ks)).toArray⟩ : ByteArray) = ⟨#[116, 114, 117, 101]⟩ := by unfold tx1; rw [if_neg (by omega), if_neg (by omega), if_pos rfl]
    rw [e]
    clear e htl hsv hk0 hsb IH
    go_enter Tryz.func15, Tryz.ntmps15
    go_wp2_with fail
    go_ret
    exact ⟨rfl, K⟩
  -- THE WORDS (gen_tz.py)
  obtain ⟨o, rfl⟩ : ∃ o : Nat, op = (o : Int) := ⟨op.toNat, by unfold known at hkn; simp at hkn; omega⟩
  have ho1 : 1 ≤ o := by unfold known at hkn; simp at hkn; omega
  have ho3 : (0 : Int) ≤ (o : Int) := by omega
  have ho4 : (o : Int) < 28 := by unfold known at hkn; simp at hkn; omega
  have hlen := h.len
  have ho2 : o < 28 := by unfold known at hkn; simp at hkn; omega
  obtain ⟨L, hL, hL2, hL5⟩ := wordB_form (o : Int)
  obtain ⟨bs, hbs⟩ : ∃ bs, bs = 40 :: (L ++ cutL o p q) := ⟨_, rfl⟩
  have etx : tx1 o p q nm (kT d ks) = bs ++ Lib.joinTail [32] (kT d ks) ++ [41] := by
    unfold tx1
    rw [if_neg h20, if_neg h21, if_neg h24, ← hL2, hbs]
    simp only [List.cons_append, List.append_assoc]
  rw [etx] at htl ⊢
  have hbl : bs.length + (Lib.joinTail [32] (kT d ks)).length + 1 ≤ 280 := by
    simp only [List.length_append, List.length_cons, List.length_nil] at htl
    omega
  have HBL := Lib.hid hbl
  have HNN := Lib.hid hnn
  have HK0 := Lib.hid hk0
  have hbd : (o : Int) = 22 → 0 ≤ q ∧ q ≤ p ∧ p ≤ 3 := fun e => by rw [e] at hsb; exact cut_bd hsb (kS_bd hdw d ks)
  clear hL2 etx htl hbl hnn hk0 hsv hsb
  clear A0 A1 A2 A3 A4 A5
  obtain ⟨w0, hw0⟩ : ∃ w0, w0 = w.alloc (.cells #[.int .i64 o, .int .i64 p, .int .i64 q, .string nm, .slice sa ks.length sc] 33) := ⟨_, rfl⟩
  rw [← hw0] at A h K
  have HW0 := Lib.hid hw0
  clear hw0
  have e20 : ((o : Int) == 20) = false := beq_false_of_ne h20
  have e21 : ((o : Int) == 21) = false := beq_false_of_ne h21
  have e24 : ((o : Int) == 24) = false := beq_false_of_ne h24
  by_cases h22 : (o : Int) = 22
  · have e22 : Hid ((o : Int) = 22) := h22
    obtain ⟨q0, q1, q2⟩ := hbd h22
    obtain ⟨pn, rfl⟩ := Int.eq_ofNat_of_zero_le (show 0 ≤ p by omega)
    obtain ⟨qn, rfl⟩ := Int.eq_ofNat_of_zero_le q0
    have hpn : pn ≤ 9 := by omega
    have hqn : qn ≤ 9 := by omega
    obtain ⟨b1, hb1⟩ : ∃ b1, b1 = 40 :: L := ⟨_, rfl⟩
    have hcat : (⟨#[40]⟩ : ByteArray) ++ (⟨L.toArray⟩ : ByteArray) = (⟨b1.toArray⟩ : ByteArray) := by rw [hb1]; exact bytes_cons 40 L
    have HC := Lib.hid hcat
    have hl1 : b1.length ≤ 6 := by rw [hb1, List.length_cons]; omega
    have DP := Lib.hid (fun w' => l12Dec_nat pn w' (by omega))
    have DQ := Lib.hid (fun w' => l12Dec_nat qn w' (by omega))
    have ldp : (dg pn).length ≤ 1 := by rw [dg_small hpn]; exact Nat.le_refl _
    have ldq : (dg qn).length ≤ 1 := by rw [dg_small hqn]; exact Nat.le_refl _
    have hB0 : bs = b1 ++ [32] ++ dg pn ++ [32] ++ dg qn := by
      rw [hbs, hb1]
      unfold cutL
      rw [if_pos h22, Int.toNat_natCast, Int.toNat_natCast, dec_dg hpn, dec_dg hqn]
      simp
    have HB0 := Lib.hid hB0
    clear hcat hbs hbd hb1 q0 q1 q2 h22 hB0
    generalize dg pn = P at *
    generalize dg qn = Q at *
    obtain ⟨c1, hc1⟩ : ∃ c, c = b1 ++ [32] := ⟨_, rfl⟩
    obtain ⟨c2, hc2⟩ : ∃ c, c = c1 ++ P := ⟨_, rfl⟩
    obtain ⟨c3, hc3⟩ : ∃ c, c = c2 ++ [32] := ⟨_, rfl⟩
    have hc4 : c3 ++ Q = bs := by rw [HB0.out, hc3, hc2, hc1]
    have l1 : c1.length ≤ 10 := by rw [hc1, List.length_append]; simp; omega
    have l2 : c2.length ≤ 20 := by rw [hc2, List.length_append]; omega
    have l3 : c3.length ≤ 30 := by rw [hc3, List.length_append]; simp; omega
    have cat1 := Lib.hid (cat_run hc1.symm (by simp; omega))
    have cat2 := Lib.hid (cat_run hc2.symm (by omega))
    have cat3 := Lib.hid (cat_run hc3.symm (by simp; omega))
    have cat4 := Lib.hid (cat_run hc4 (by omega))
    clear hc1 hc2 hc3 hc4 l1 l2 l3 HB0
    go_enter Tryz.func15, Tryz.ntmps15
    go_upto_region 8 with (rw [← HW0.out]; have A0 := A.cells.1)
    try simp only [e20, e21, e24]
    go_cut [3] (fun s3 wx => s3 = .string ⟨b1.toArray⟩ ∧ Below w0.heap.size w0 wx)
    case first =>
      have A0 := A.cells.1
      have L5 : L.length ≤ 5 := hL5
      go_region_with (go_at_call 27; refine (l2Words_any _).mono ?_; rintro e w2 ⟨b2, rfl, hc, hb⟩; replace hc := hc o ho2; rw [hL] at hc; have A0' := (A.drew.keep hb).cells.1)
      all_goals
        go_wp2_with fail
        go_meet
        exact ⟨by rw [HC.out], by first | exact below_two (Below.refl _ _).drew hb | exact below_two (Below.refl _ _) hb⟩
    case rest =>
      obtain ⟨rfl, hb⟩ := hcut
      replace A := A.keep hb
      replace h := h.below hb
      replace K := below_two K hb
      clear hb HW0
      obtain ⟨A0, A1, A2, A3, A4, A5⟩ := A.cells
      have hbl2 := HBL.out
      have e22t : ((o : Int) == 22) = true := by rw [e22.out]; rfl
      have e22p : (o : Int) = 22 := e22.out
      clear e22p
      go_upto_region 10 with fail
      try simp only [e22t]
      go_cut [3] (fun s3 wx => s3 = .string ⟨bs.toArray⟩ ∧ Below wc.heap.size wc wx)
      case first =>
        have k1 := cat1.out
        have k2 := cat2.out
        have k3 := cat3.out
        have k4 := cat4.out
        clear A0 A3 A4 A5 hbl2 e22t
        replace A := A.drew
        have sS := And.intro A.cells.2.1 A.cells.2.2.1
        have K0 := (Below.refl wc.heap.size wc).drew
        go_region_held3 (fun wx : World => wx.cell? ⟨w.heap.size, 1, none⟩ = some (.int .i64 (pn : Int)) ∧ wx.cell? ⟨w.heap.size, 2, none⟩ = some (.int .i64 (qn : Int))) (first | (with_reducible assumption)) (first
          | (go_at_call 28; (with_reducible refine (DP.out _).mono ?_); rintro e w3 ⟨rfl, hb⟩; replace A := A.keep hb; replace K0 := below_two K0 hb; clear hb; replace sS := And.intro A.cells.2.1 A.cells.2.2.1)
          | (go_at_call 28; (with_reducible refine (DQ.out _).mono ?_); rintro e w4 ⟨rfl, hb⟩; replace A := A.keep hb; replace K0 := below_two K0 hb; clear hb; replace sS := And.intro A.cells.2.1 A.cells.2.2.1))
        all_goals
          go_wp2_with fail
          go_meet
          exact ⟨rfl, K0⟩
      case rest =>
        obtain ⟨rfl, hb⟩ := hcut
        replace A := A.keep hb
        replace h := h.below hb
        replace K := below_two K hb
        clear hb cat1 cat2 cat3 cat4 A0 A1 A2 A3 A4 A5
        obtain ⟨A0, A1, A2, A3, A4, A5⟩ := A.cells
        go_wp2_with fail
        go_loopw [3, 4] (fun q i wr => ∃ k : Nat, k ≤ ks.length ∧ i = .int .i64 k ∧ q = .string ⟨(bs ++ Lib.joinTail [32] ((kT d ks).take k)).toArray⟩ ∧ Below wc.heap.size wc wr) (fun _ i _ => ks.length - (intOf i).toNat)
        case atStart => exact ⟨0, Nat.zero_le _, rfl, by simp [Lib.joinTail], by first | exact Below.refl _ _ | exact below_drewN (Below.refl _ _) _⟩
        case round =>
          obtain ⟨k, hk, rfl, rfl, B⟩ := hrel
          have Ak := A.keep B
          have h' := h.below B
          clear A0 A1 A2 A3 A4 A5
          obtain ⟨A0, A1, A2, A3, A4, A5⟩ := Ak.cells
          by_cases hlt : k < ks.length
          · obtain ⟨d', rfl⟩ : ∃ d', d = d' + 1 := by
              cases d with
              | zero => exfalso; have := h'.1; subst this; exact Nat.not_lt_zero _ hlt
              | succ d => exact ⟨d, rfl⟩
            obtain ⟨a2, c2, S, es2, hrow, hnm, hS⟩ := h'
            cases es2
            obtain ⟨b, off, rfl, hbl, x0, x1, x2, x3, x4⟩ := hrow.five hlt
            have h1k := hS k hlt
            obtain ⟨sa1, sc1, es1, _⟩ := h1k.form
            rw [es1] at x4 h1k
            have hN : NN d' (ks.getD k tz).ks ≤ 20 := by
              have := sum_at (fun i => NN d' (ks.getD i tz).ks) hlt
              have e : NN (d' + 1) ks = 1 + sumTo (fun i => NN d' (ks.getD i tz).ks) ks.length := rfl
              have h20' := HNN.out
              omega
            have C := Lib.hid (IH d' rfl (ks.getD k tz).op (ks.getD k tz).a (ks.getD k tz).b (ks.getD k tz).nm _ (ks.getD k tz).ks wr h1k (kid_sorted HK0.out hlt) hN)
            have hX := kT_at (d := d') hlt
            have hjt := Lib.joinTail_take_succ [32] (kT (d' + 1) ks) k _ hX
            have hl1 := tail_take [32] (kT (d' + 1) ks) (k + 1)
            have hl2 := HBL.out
            generalize tx1 (ks.getD k tz).op (ks.getD k tz).a (ks.getD k tz).b (ks.getD k tz).nm (kT d' (ks.getD k tz).ks) = X at *
            have hl3 : (bs ++ Lib.joinTail [32] ((kT (d' + 1) ks).take k)).length + X.length ≤ 400 := by
              rw [hjt] at hl1
              simp only [List.length_append, List.length_cons, List.length_nil] at hl1 ⊢
              omega
            have N : Hid ((⟨(bs ++ Lib.joinTail [32] ((kT (d' + 1) ks).take k)).toArray⟩ : ByteArray) ++ ⟨#[32]⟩ ++ ⟨X.toArray⟩ = ⟨(bs ++ Lib.joinTail [32] ((kT (d' + 1) ks).take (k + 1))).toArray⟩) := by
              show _ = _
              rw [hjt, bytes_cat _ [32], bytes_cat]
              simp only [List.append_assoc]
            have hT1 : (bs ++ Lib.joinTail [32] ((kT (d' + 1) ks).take k)).length ≤ 400 := by omega
            have hX1 : X.length ≤ 400 := by omega
            clear hX hjt hl1 hl2 hl3 hrow hnm hS h1k hN
            generalize bs ++ Lib.joinTail [32] ((kT (d' + 1) ks).take k) = T at *
            generalize ks.getD k tz = t at *
            have hk1 : (k : Int) < (ks.length : Int) := by omega
            have hk2 : (0 : Int) ≤ (k : Int) := by omega
            go_wp2_with fail
            refine C.out.mono ?_; rintro e w9 ⟨rfl, hb⟩
            go_wp2_with fail
            exact ⟨⟨k + 1, by omega, by go_num, by rw [N.out], below_two B hb⟩, by simp [intOf]; omega⟩
          · obtain rfl : k = ks.length := by omega
            have hl2 := HBL.out
            have N : Hid ((⟨(bs ++ Lib.joinTail [32] ((kT d ks).take ks.length)).toArray⟩ : ByteArray) ++ ⟨#[41]⟩ = ⟨(bs ++ Lib.joinTail [32] (kT d ks) ++ [41]).toArray⟩) := by
              show _ = _
              rw [bytes_cat _ [41], ← hkt, List.take_length]
            have hT1 : (bs ++ Lib.joinTail [32] ((kT d ks).take ks.length)).length ≤ 400 := by rw [← hkt, List.take_length, List.length_append]; omega
            clear hl2
            generalize bs ++ Lib.joinTail [32] ((kT d ks).take ks.length) = T at *
            go_wp2_with fail
            go_ret
            exact ⟨by rw [← N.out]; rfl, below_two K B⟩
  · have e22 : ((o : Int) == 22) = false := beq_false_of_ne h22
    have hc0 : cutL o p q = [] := by unfold cutL; rw [if_neg h22]
    rw [hc0, List.append_nil] at hbs
    have HB0 : Hid (bs = 40 :: L) := hbs
    have hcat : (⟨#[40]⟩ : ByteArray) ++ (⟨L.toArray⟩ : ByteArray) = (⟨bs.toArray⟩ : ByteArray) := by rw [hbs]; exact bytes_cons 40 L
    have HC := Lib.hid hcat
    clear hcat hbs hbd hc0
    go_enter Tryz.func15, Tryz.ntmps15
    go_upto_region 8 with (rw [← HW0.out]; have A0 := A.cells.1)
    try simp only [e20, e21, e24]
    go_cut [3] (fun s3 wx => s3 = .string ⟨bs.toArray⟩ ∧ Below w0.heap.size w0 wx)
    case first =>
      have A0 := A.cells.1
      have L5 : L.length ≤ 5 := hL5
      go_region_with (go_at_call 27; refine (l2Words_any _).mono ?_; rintro e w2 ⟨b2, rfl, hc, hb⟩; replace hc := hc o ho2; rw [hL] at hc; have A0' := (A.drew.keep hb).cells.1)
      all_goals
        go_wp2_with fail
        go_meet
        exact ⟨by rw [HC.out], by first | exact below_two (Below.refl _ _).drew hb | exact below_two (Below.refl _ _) hb⟩
    case rest =>
      obtain ⟨rfl, hb⟩ := hcut
      replace A := A.keep hb
      replace h := h.below hb
      replace K := below_two K hb
      clear hb
      obtain ⟨A0, A1, A2, A3, A4, A5⟩ := A.cells
      go_wp2_with fail
      go_loopw [3, 4] (fun q i wr => ∃ k : Nat, k ≤ ks.length ∧ i = .int .i64 k ∧ q = .string ⟨(bs ++ Lib.joinTail [32] ((kT d ks).take k)).toArray⟩ ∧ Below wc.heap.size wc wr) (fun _ i _ => ks.length - (intOf i).toNat)
      case atStart => exact ⟨0, Nat.zero_le _, rfl, by rw [HB0.out]; simp [Lib.joinTail], by first | exact Below.refl _ _ | exact below_drewN (Below.refl _ _) _⟩
      case round =>
        obtain ⟨k, hk, rfl, rfl, B⟩ := hrel
        have Ak := A.keep B
        have h' := h.below B
        clear A0 A1 A2 A3 A4 A5
        obtain ⟨A0, A1, A2, A3, A4, A5⟩ := Ak.cells
        by_cases hlt : k < ks.length
        · obtain ⟨d', rfl⟩ : ∃ d', d = d' + 1 := by
            cases d with
            | zero => exfalso; have := h'.1; subst this; exact Nat.not_lt_zero _ hlt
            | succ d => exact ⟨d, rfl⟩
          obtain ⟨a2, c2, S, es2, hrow, hnm, hS⟩ := h'
          cases es2
          obtain ⟨b, off, rfl, hbl, x0, x1, x2, x3, x4⟩ := hrow.five hlt
          have h1k := hS k hlt
          obtain ⟨sa1, sc1, es1, _⟩ := h1k.form
          rw [es1] at x4 h1k
          have hN : NN d' (ks.getD k tz).ks ≤ 20 := by
            have := sum_at (fun i => NN d' (ks.getD i tz).ks) hlt
            have e : NN (d' + 1) ks = 1 + sumTo (fun i => NN d' (ks.getD i tz).ks) ks.length := rfl
            have h20' := HNN.out
            omega
          have C := Lib.hid (IH d' rfl (ks.getD k tz).op (ks.getD k tz).a (ks.getD k tz).b (ks.getD k tz).nm _ (ks.getD k tz).ks wr h1k (kid_sorted HK0.out hlt) hN)
          have hX := kT_at (d := d') hlt
          have hjt := Lib.joinTail_take_succ [32] (kT (d' + 1) ks) k _ hX
          have hl1 := tail_take [32] (kT (d' + 1) ks) (k + 1)
          have hl2 := HBL.out
          generalize tx1 (ks.getD k tz).op (ks.getD k tz).a (ks.getD k tz).b (ks.getD k tz).nm (kT d' (ks.getD k tz).ks) = X at *
          have hl3 : (bs ++ Lib.joinTail [32] ((kT (d' + 1) ks).take k)).length + X.length ≤ 400 := by
            rw [hjt] at hl1
            simp only [List.length_append, List.length_cons, List.length_nil] at hl1 ⊢
            omega
          have N : Hid ((⟨(bs ++ Lib.joinTail [32] ((kT (d' + 1) ks).take k)).toArray⟩ : ByteArray) ++ ⟨#[32]⟩ ++ ⟨X.toArray⟩ = ⟨(bs ++ Lib.joinTail [32] ((kT (d' + 1) ks).take (k + 1))).toArray⟩) := by
            show _ = _
            rw [hjt, bytes_cat _ [32], bytes_cat]
            simp only [List.append_assoc]
          have hT1 : (bs ++ Lib.joinTail [32] ((kT (d' + 1) ks).take k)).length ≤ 400 := by omega
          have hX1 : X.length ≤ 400 := by omega
          clear hX hjt hl1 hl2 hl3 hrow hnm hS h1k hN
          generalize bs ++ Lib.joinTail [32] ((kT (d' + 1) ks).take k) = T at *
          generalize ks.getD k tz = t at *
          have hk1 : (k : Int) < (ks.length : Int) := by omega
          have hk2 : (0 : Int) ≤ (k : Int) := by omega
          go_wp2_with fail
          refine C.out.mono ?_; rintro e w9 ⟨rfl, hb⟩
          go_wp2_with fail
          exact ⟨⟨k + 1, by omega, by go_num, by rw [N.out], below_two B hb⟩, by simp [intOf]; omega⟩
        · obtain rfl : k = ks.length := by omega
          have hl2 := HBL.out
          have N : Hid ((⟨(bs ++ Lib.joinTail [32] ((kT d ks).take ks.length)).toArray⟩ : ByteArray) ++ ⟨#[41]⟩ = ⟨(bs ++ Lib.joinTail [32] (kT d ks) ++ [41]).toArray⟩) := by
            show _ = _
            rw [bytes_cat _ [41], ← hkt, List.take_length]
          have hT1 : (bs ++ Lib.joinTail [32] ((kT d ks).take ks.length)).length ≤ 400 := by rw [← hkt, List.take_length, List.length_append]; omega
          clear hl2
          generalize bs ++ Lib.joinTail [32] ((kT d ks).take ks.length) = T at *
          go_wp2_with fail
          go_ret
          exact ⟨by rw [← N.out]; rfl, below_two K B⟩
end Go.Proofs.YtfkanemjedndgaaGreatDoor
