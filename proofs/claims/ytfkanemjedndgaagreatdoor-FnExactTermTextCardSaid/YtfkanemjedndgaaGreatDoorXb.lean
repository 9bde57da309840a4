/- textOf of the program: the text of a term, of its words. The conditions stand in each statement. -/
import Derived.Test.YtfkanemjedndgaaGreatDoorXa
import Derived.Deep.DeepCutAuto
import Derived.Deep.AppendLies
import Derived.Deep.RegionHeldLaw
namespace Go.Proofs.YtfkanemjedndgaaGreatDoor
open Go.RowKit

def cutP (op a b : Int) : List (List UInt8) := if op = 22 then [Lib.decDigits a.toNat, Lib.decDigits b.toNat] else []
theorem joinTail_append (sep : List UInt8) (x y : List (List UInt8)) : Lib.joinTail sep (x ++ y) = Lib.joinTail sep x ++ Lib.joinTail sep y := by
  unfold Lib.joinTail
  rw [List.map_append, List.flatten_append]
theorem cutP_tail (op a b : Int) : Lib.joinTail [32] (cutP op a b) = cutL op a b := by
  unfold cutP cutL
  split
  · simp [Lib.joinTail]
  · rfl
def bss (ws : List (List UInt8)) : List ByteArray := ws.map fun l => ⟨l.toArray⟩
theorem bss_back (ws : List (List UInt8)) : (bss ws).map (·.data.toList) = ws := by
  unfold bss
  rw [List.map_map]
  conv => rhs; rw [← List.map_id ws]
  rfl
theorem bss_len (ws : List (List UInt8)) : (bss ws).length = ws.length := by simp [bss]
def svs (ws : List (List UInt8)) : List Value := ws.map fun l => .string ⟨l.toArray⟩
theorem svs_len (ws : List (List UInt8)) : (svs ws).length = ws.length := by simp [svs]
theorem svs_app (ws xs : List (List UInt8)) : svs (ws ++ xs) = svs ws ++ svs xs := by simp [svs]
theorem svs_one (ws : List (List UInt8)) : ∀ u ∈ svs ws, u.oneCell' = true := by
  intro u hu
  unfold svs at hu
  obtain ⟨l, _, rfl⟩ := List.mem_map.1 hu
  rfl
theorem words_join {op a b : Int} {nm : ByteArray} {ts : List (List UInt8)} (h20 : op ≠ 20) (h21 : op ≠ 21) (h24 : op ≠ 24) :
    tx1 op a b nm ts = 40 :: (Lib.join ((wordB op).data.toList :: (cutP op a b ++ ts)) [32] ++ [41]) := by
  unfold tx1
  rw [if_neg h20, if_neg h21, if_neg h24, Lib.join_cons, joinTail_append, cutP_tail]
  simp only [List.append_assoc]
theorem infoString : (Tryz.prog.info? 9).map (fun i => (i.zero, i.size, i.bytes)) = some (some (.string ⟨#[]⟩), 1, 16) := by kernel_rfl
def spB : ByteArray := ⟨#[32]⟩
theorem join_own {w : World} {base g n cap : Nat} {ws : List (List UInt8)} (h : w.ownsRow base 9 1 (.slice (some ⟨g, 0, none⟩) n cap) n (svs ws)) (hn : ws.length = n) (hn2 : n ≤ 100) (hlen : (Lib.join ws [32]).length ≤ 1000) :
    Calls Tryz.prog 34 #[.slice (some ⟨g, 0, none⟩) n cap, .string ⟨#[32]⟩] w fun e w' => e = .returned (.string ⟨(Lib.join ws [32]).toArray⟩) ∧ Below w.heap.size w w' := by
  have hg := (h.lt g rfl).2
  have hcap : n ≤ cap := by
    rcases h.2 with ⟨e, _⟩ | ⟨g2, c2, cur, e, _, _, hc, _⟩
    · cases e
    · cases e; exact hc
  have C := join_any g 0 cap (bss ws) ⟨#[32]⟩ w (fun j x hx => by
    have hj : j < n := by rw [← hn, ← bss_len]; exact (List.getElem?_eq_some_iff.1 hx).1
    rw [Nat.zero_add, h.cellAt j (by omega)]
    unfold bss at hx
    rw [List.getElem?_map, Option.map_eq_some_iff] at hx
    obtain ⟨l, hl, rfl⟩ := hx
    unfold svs
    rw [List.getElem?_map, hl]
    rfl) hg (by rw [bss_len]; omega) (by rw [bss_len]; omega) (by rw [bss_back]; exact Nat.le_trans hlen (by omega))
  rw [bss_back, bss_len, hn] at C
  exact C
theorem own_word (w : World) (l : List UInt8) : (w.alloc (.cells #[.string ⟨l.toArray⟩] 9)).ownsRow w.heap.size 9 1 (.slice (some ⟨w.heap.size, 0, none⟩) 1 1) 1 (svs [l]) :=
  ⟨rfl, .inr ⟨w.heap.size, 1, #[.string ⟨l.toArray⟩], rfl, Nat.le_refl _, heap_alloc_new w _, by omega, by decide, rfl, rfl⟩⟩
theorem named_3 (h : 67 < Tryz.prog.types.size) (x y z : Value) : List.take (Tryz.prog.types[67]'h).size [x, y, z] = [x, y] := by
  have e : (Tryz.prog.types[67]'h).size = 2 := by kernel_rfl
  rw [e]; rfl
theorem cells_two (w : World) (x y : Value) (t : TypeId) : ∀ (j : Nat) (u : Value), [x, y][j]? = some u → (w.alloc (.cells #[x, y] t)).cell? ((⟨w.heap.size, 0, none⟩ : Addr).add j) = some u :=
  World.news_of_block (heap_alloc_new w _)
theorem svs_take (W0 : List (List UInt8)) (ts : List (List UInt8)) (k : Nat) (x : List UInt8) (h : ts[k]? = some x) : svs (W0 ++ ts.take (k + 1)) = svs (W0 ++ ts.take k) ++ [.string ⟨x.toArray⟩] := by
  rw [List.take_add_one, h, ← List.append_assoc, svs_app (W0 ++ ts.take k)]
  rfl
def TextC (ds : List Dc) (d : Nat) : Prop := ∀ (b : Nat) (op p q : Int) (nm : ByteArray) (s : Value) (ks : List Tm) (w : World), KMap w b → SIn d w s ks → SV1 ds op p q nm (kS ds d ks) ≠ -1 → NN d ks ≤ 20 →
  Calls Tryz.prog 19 #[.map (some b), .agg #[.int .i64 op, .int .i64 p, .int .i64 q, .string nm, s]] w fun e w' => e = .returned (.string ⟨(tx1 op p q nm (kT d ks)).toArray⟩) ∧ Below w.heap.size w w'

set_option linter.unusedVariables false in
set_option maxRecDepth 100000 in
set_option maxHeartbeats 8000000 in
theorem textOf_step (ds : List Dc) (hdw : DW ds) (hdn : ∀ i, i < ds.length → (ds.getD i dz).1.size ≤ 4) (d : Nat) (IH : ∀ d', d = d' + 1 → TextC ds d') : TextC ds d := by
  intro b op p q nm s ks w hM h hsv hnn
  obtain ⟨hkn, har, _, hk0, hsb⟩ := SV1_parts hsv
  have htl := tx_len hdw hdn d w s ks h op p q nm hsv
  have hkt := kT_len h
  have hks := kS_len (ds := ds) h
  have hk3 : ks.length ≤ 3 := by have := arity_le op; omega
  obtain ⟨sa, sc, es, _⟩ := h.form
  subst es
  have K := below_self_alloc w (.cells #[.int .i64 op, .int .i64 p, .int .i64 q, .string nm, .slice sa ks.length sc] 33)
  have A := blk5_new w (.int .i64 op) (.int .i64 p) (.int .i64 q) (.string nm) (.slice sa ks.length sc) 33
  replace h := h.below K
  replace hM := hM.below K
  obtain ⟨A0, A1, A2, A3, A4, A5⟩ := A.cells
  clear har hks
  by_cases h20 : op = 20
  · subst h20
    have e : (⟨(tx1 20 p q nm (kT d ks)).toArray⟩ : ByteArray) = vtxt p q := by rw [vtxt_eq]; rfl
    rw [e]
    have V := Lib.hid (fun w' => vecText_impl p q w')
    clear e htl hsv hk0 hsb IH hM
    go_enter Tryz.func19, Tryz.ntmps19
    go_wp2_with fail
    refine (V.out _).mono ?_; rintro e w1 ⟨rfl, hb⟩
    replace K := below_two K hb
    clear A0 A1 A2 A3 A4 A5
    go_wp2_with fail
    go_ret
    exact ⟨rfl, K⟩
  by_cases h21 : op = 21
  · subst h21
    have e : (⟨(tx1 21 p q nm (kT d ks)).toArray⟩ : ByteArray) = nm := by unfold tx1; rw [if_neg (by omega), if_pos rfl]
    rw [e]
    clear e htl hsv hk0 hsb IH hM
    go_enter Tryz.func19, Tryz.ntmps19
    go_wp2_with fail
    go_ret
    exact ⟨rfl, K⟩
  by_cases h24 : op = 24
  · subst h24
    have e : (⟨(tx1 24 p q nm (kT d ks)).toArray⟩ : ByteArray) = ⟨#[116, 114, 117, 101]⟩ := by unfold tx1; rw [if_neg (by omega), if_neg (by omega), if_pos rfl]
    rw [e]
    clear e htl hsv hk0 hsb IH hM
    go_enter Tryz.func19, Tryz.ntmps19
    go_wp2_with fail
    go_ret
    exact ⟨rfl, K⟩
  -- THE WORDS
  have hop : (Lit.int .i64 op).wf = true := by
    unfold known at hkn
    simp [Lit.wf, IntKind.min, IntKind.max, IntKind.signed, IntKind.bits] at hkn ⊢
    omega
  have hlen := h.len
  obtain ⟨L, hL, hL2, hL5⟩ := wordB_form op
  have etx := words_join (a := p) (b := q) (nm := nm) (ts := kT d ks) h20 h21 h24
  rw [← hL2] at etx
  rw [etx] at htl ⊢
  obtain ⟨R, hR⟩ : ∃ R, R = 40 :: (Lib.join (L :: (cutP op p q ++ kT d ks)) [32] ++ [41]) := ⟨_, rfl⟩
  rw [← hR]
  have HR := Lib.hid hR
  clear hR
  have hbl : (Lib.join (L :: (cutP op p q ++ kT d ks)) [32]).length ≤ 280 := by
    simp only [List.length_append, List.length_cons, List.length_nil] at htl
    omega
  have HBL := Lib.hid hbl
  have HNN := Lib.hid hnn
  have HK0 := Lib.hid hk0
  have hbd : op = 22 → 0 ≤ q ∧ q ≤ p ∧ p ≤ 3 := fun e => by rw [e] at hsb; exact cut_bd hsb (kS_bd hdw d ks)
  have LK : Hid (∀ w', KMap w' b → ∃ v, (Instr.lookup 48 (.map (some b)) (.int .i64 op) false).run Tryz.prog w' = .ok v w' ∧ HoldsW op v) := fun w' h' => look_word h' op hop hkn h20 h21 h24
  have HL := Lib.hid hL
  clear hL2 etx htl hbl hnn hk0 hsv hsb hkn hop hL
  clear A0 A1 A2 A3 A4 A5
  obtain ⟨w0, hw0⟩ : ∃ w0, w0 = w.alloc (.cells #[.int .i64 op, .int .i64 p, .int .i64 q, .string nm, .slice sa ks.length sc] 33) := ⟨_, rfl⟩
  rw [← hw0] at A h K hM
  have HW0 := Lib.hid hw0
  clear hw0
  have e20 : (op == 20) = false := beq_false_of_ne h20
  have e21 : (op == 21) = false := beq_false_of_ne h21
  have e24 : (op == 24) = false := beq_false_of_ne h24
  obtain ⟨i0, hi, hz0, hz1, hz2⟩ := info_parts infoString
  go_enter Tryz.func19, Tryz.ntmps19
  go_upto_region 8 with (rw [← HW0.out]; have A0 := A.cells.1)
  try simp only [e20, e21, e24]
  go_cut [5] (fun s5 wx => ∃ g cap, s5 = .slice (some ⟨g, 0, none⟩) 1 cap ∧ wx.ownsRow w0.heap.size 9 1 (.slice (some ⟨g, 0, none⟩) 1 cap) 1 (svs [L]) ∧ Below w0.heap.size w0 wx)
  case first =>
    obtain ⟨v, hrun, hh⟩ := LK.out w0 hM
    have A0 := A.cells.1
    unfold HoldsW at hh
    clear hi hz0 hz1 hz2 LK
    rcases hh with ⟨-, rfl⟩ | ⟨-, rfl⟩ | ⟨-, rfl⟩ | ⟨-, rfl⟩ | ⟨-, rfl⟩ | ⟨-, rfl⟩ | ⟨n, f, -, rfl⟩
    all_goals
      first | unfold kUn at hrun | unfold kBin at hrun | unfold kCat at hrun | unfold kCmp at hrun | unfold kCut at hrun | unfold kIf at hrun | unfold kBool at hrun
      go_wp2_with ((first | (go_at_call 115; (first | rw [named_two] | rw [named_3]); (with_reducible refine (word_any _ _ _).mono ?_); rintro e w1 ⟨rfl, hb⟩)))
      go_meet
      rw [HL.out]
      exact ⟨_, _, rfl, Go.Joins.ownsRow_le (own_word w1 L) hb.size, below_step hb _⟩
  case rest =>
    obtain ⟨g, cap, rfl, own, hb⟩ := hcut
    have G0 : w0.heap.size ≤ g ∧ g < wc.heap.size := own.lt g rfl
    have BW := hb
    clear hb HW0 LK
    obtain ⟨A0, A1, A2, A3, A4, A5⟩ := (A.keep BW).cells
    have hsz0 := BW.size
    by_cases h22 : op = 22
    · have e22 : Hid (op = 22) := h22
      obtain ⟨q0, q1, q2⟩ := hbd h22
      obtain ⟨P, hP⟩ : ∃ P, P = Lib.decDigits p.toNat := ⟨_, rfl⟩
      obtain ⟨Q, hQ⟩ : ∃ Q, Q = Lib.decDigits q.toNat := ⟨_, rfl⟩
      have IP : Hid (∀ w', Calls Tryz.prog 33 #[.int .i64 p] w' fun e w2 => e = .returned (.string ⟨P.toArray⟩) ∧ w2 = w') := fun w' => by
        have := itoa_small p.toNat (by omega) w'
        rw [Int.toNat_of_nonneg (by omega), ← hP] at this
        exact this
      have IQ : Hid (∀ w', Calls Tryz.prog 33 #[.int .i64 q] w' fun e w2 => e = .returned (.string ⟨Q.toArray⟩) ∧ w2 = w') := fun w' => by
        have := itoa_small q.toNat (by omega) w'
        rw [Int.toNat_of_nonneg (by omega), ← hQ] at this
        exact this
      have e22t : (op == 22) = true := by rw [h22]; rfl
      clear h22 q0 q1 q2
      go_upto_region 10 with fail
      try simp only [e22t]
      go_cut [5] (fun s5 wx => ∃ g' cap', s5 = .slice (some ⟨g', 0, none⟩) 3 cap' ∧ wx.ownsRow w0.heap.size 9 1 (.slice (some ⟨g', 0, none⟩) 3 cap') 3 (svs [L, P, Q]) ∧ Below w0.heap.size w0 wx)
      case first =>
        have BD : Below w0.heap.size w0 (wc.alloc (.cells #[.string ⟨P.toArray⟩, .string ⟨Q.toArray⟩] 9)).drew := (below_step BW _).drew
        have s0 := And.intro (A.keep BW.drew).cells.2.1 (A.keep BW.drew).cells.2.2.1
        have s1 := And.intro (A.keep BD).cells.2.1 (A.keep BD).cells.2.2.1
        have ownD : (wc.alloc (.cells #[.string ⟨P.toArray⟩, .string ⟨Q.toArray⟩] 9)).drew.ownsRow w0.heap.size 9 1 (.slice (some ⟨g, 0, none⟩) 1 cap) 1 (svs [L]) := (own.alloc _).drew
        clear A0 A1 A2 A3 A4 A5 hM h hP hQ e22t
        go_region_held_law (fun wx : World => wx.cell? ⟨w.heap.size, 1, none⟩ = some (.int .i64 p) ∧ wx.cell? ⟨w.heap.size, 2, none⟩ = some (.int .i64 q)) (first | (with_reducible assumption)) (first
          | (go_at_call 33; (with_reducible refine (IP.out _).mono ?_); rintro e w2 ⟨rfl, rfl⟩)
          | (go_at_call 33; (with_reducible refine (IQ.out _).mono ?_); rintro e w2 ⟨rfl, rfl⟩)
          | (refine step_append_lies _ rfl (.tmp 33) (.tmp 40) _ rfl w0.heap.size 9 i0 (.string ⟨#[]⟩) 1 16 Tryz.underlying58 hi hz0 hz1 hz2 rfl (by decide) _ 1 (svs [L]) rfl ownD ⟨wc.heap.size, 0, none⟩ 2 2 [.string ⟨P.toArray⟩, .string ⟨Q.toArray⟩] rfl rfl (cells_two wc _ _ _) (by intro u hu; simp at hu; rcases hu with rfl | rfl <;> rfl) (by decide) (by unfold maxLen; omega) (by omega) (by simp; omega) _ rfl ?_; intro g4 cap4 w4 own4 hg4 hat4 hlt4; have B4 : Below w0.heap.size w0 w4 := BD.grown hg4 (by simp; omega) (fun q hq => (ownD.lt q hq).1); have sF := And.intro (A.keep B4).cells.2.1 (A.keep B4).cells.2.2.1))
        all_goals
          simp only [List.getElem_toArray, List.getElem_cons_succ, List.getElem_cons_zero, List.set_cons_zero, List.set_cons_succ]
          go_wp2_with fail
          go_meet
          exact ⟨g4, cap4, rfl, own4, B4⟩
      case rest =>
        obtain ⟨g, cap, rfl, own, BW⟩ := hcut
        have G0 : w0.heap.size ≤ g ∧ g < wc.heap.size := own.lt g rfl
        clear A0 A1 A2 A3 A4 A5 IP IQ e22t
        obtain ⟨A0, A1, A2, A3, A4, A5⟩ := (A.keep BW).cells
        have hsz0 := BW.size
        obtain ⟨W0, hW0⟩ : ∃ W0, W0 = [L, P, Q] := ⟨_, rfl⟩
        have hW0l : W0.length = 3 := by rw [hW0]; rfl
        have HW := Lib.hid hW0
        have HCP : Hid (L :: (cutP op p q ++ kT d ks) = W0 ++ kT d ks) := by
          show _ = _
          unfold cutP; rw [if_pos e22.out, hW0, hP, hQ]; rfl
        have hwl : (Lib.join (W0 ++ kT d ks) [32]).length ≤ 280 := by rw [← HCP.out]; exact HBL.out
        have HWL := Lib.hid hwl
        have HR2 : Hid (R = 40 :: (Lib.join (W0 ++ kT d ks) [32] ++ [41])) := by
          show _ = _
          rw [HR.out, HCP.out]
        rw [← hW0] at own
        clear hW0 hP hQ hwl HCP HBL hbd HL HR
        have hM0 := Lib.hid hM
        have h0 := Lib.hid h
        go_wp2_with fail
        go_loopw [5, 45] (fun s5 i wr => ∃ (k g' cap' : Nat), i = .int .i64 k ∧ k ≤ ks.length ∧ s5 = .slice (some ⟨g', 0, none⟩) (3 + k : Nat) cap' ∧ wr.ownsRow w0.heap.size 9 1 (.slice (some ⟨g', 0, none⟩) (3 + k : Nat) cap') (3 + k) (svs (W0 ++ (kT d ks).take k)) ∧ Below w0.heap.size w0 wr) (fun _ i _ => ks.length - (intOf i).toNat)
        case atStart => exact ⟨0, g, cap, rfl, Nat.zero_le _, rfl, by simpa using own, by first | exact BW | exact below_drewN BW _⟩
        case round =>
          obtain ⟨k, g', cap', rfl, hk, rfl, ownr, B0⟩ := hrel
          clear own G0 BW hM h
          have h' := h0.out.below B0
          have hM2 := hM0.out.below B0
          clear A0 A1 A2 A3 A4 A5
          by_cases hlt : k < ks.length
          · obtain ⟨d', rfl⟩ : ∃ d', d = d' + 1 := by
              cases d with
              | zero => exfalso; have := h'.1; subst this; exact Nat.not_lt_zero _ hlt
              | succ d => exact ⟨d, rfl⟩
            obtain ⟨a2, c2, S, es2, hrow, hnm, hS⟩ := h'
            cases es2
            obtain ⟨bb, off, rfl, _, x0, x1, x2, x3, x4⟩ := hrow.five hlt
            have h1k := hS k hlt
            obtain ⟨sa1, sc1, es1, _⟩ := h1k.form
            rw [es1] at x4 h1k
            have hN : NN d' (ks.getD k tz).ks ≤ 20 := by
              have := sum_at (fun i => NN d' (ks.getD i tz).ks) hlt
              have e : NN (d' + 1) ks = 1 + sumTo (fun i => NN d' (ks.getD i tz).ks) ks.length := rfl
              have h20' := HNN.out
              omega
            have hX := kT_at (d := d') hlt
            have hsv := svs_take W0 (kT (d' + 1) ks) k _ hX
            have hkid := kid_sorted HK0.out hlt
            obtain ⟨x, hx⟩ : ∃ x, x = ks.getD k tz := ⟨_, rfl⟩
            rw [← hx] at x0 x1 x2 x3 x4 hN hsv hkid h1k
            have C : Hid (∀ w', Below wr.heap.size wr w' → Calls Tryz.prog 19 #[.map (some b), .agg #[.int .i64 x.op, .int .i64 x.a, .int .i64 x.b, .string x.nm, .slice sa1 x.ks.length sc1]] w' fun e w2 => e = .returned (.string ⟨(tx1 x.op x.a x.b x.nm (kT d' x.ks)).toArray⟩) ∧ Below w'.heap.size w' w2) := fun w' hb =>
              IH d' rfl b x.op x.a x.b x.nm _ x.ks w' (hM2.below hb) (h1k.below hb) hkid hN
            generalize tx1 x.op x.a x.b x.nm (kT d' x.ks) = X at *
            have HSV := Lib.hid hsv
            have hk1 : (k : Int) < (ks.length : Int) := by omega
            clear hX hsv hkid hN h1k hS hrow hnm hx hM2 es1
            go_wp2_with fail
            refine (C.out _ (below_self_alloc _ _)).mono ?_; rintro e w3 ⟨rfl, hb3⟩
            have B02 := below_two (below_step B0 _) hb3
            have own2 := own_keep1 (ownr.alloc _) hb3
            clear C x0 x1 x2 x3 x4 hb3 ownr
            have hz3 := B02.size
            go_wp2_with (at_builtin; refine wpList_append_lies _ rfl _ _ 58 rfl w0.heap.size 9 i0 (.string ⟨#[]⟩) 1 16 Tryz.underlying58 hi hz0 hz1 hz2 rfl (by decide) _ _ _ rfl (own2.alloc _) ⟨w3.heap.size, 0, none⟩ 1 1 [.string ⟨X.toArray⟩] rfl rfl (cell_new1 _ _ _) (by intro u hu; simp at hu; subst hu; rfl) (by decide) (by unfold maxLen; omega) (by omega) (by simp; omega) _ rfl ?_; intro g4 cap4 w4 own4 hg4 hat4 hlt4; refine Hid.out ?_)
            refine Lib.hid ?_
            have B04 : Below w0.heap.size w0 w4 := (below_step B02 _).grown hg4 (by simp; omega) (fun q hq => (own2.lt q hq).1)
            have own5 : w4.ownsRow w0.heap.size 9 1 (.slice (some ⟨g4, 0, none⟩) (3 + (k + 1) : Nat) cap4) (3 + (k + 1)) (svs (W0 ++ (kT (d' + 1) ks).take (k + 1))) := by
              rw [HSV.out]; exact own4
            clear own2 own4 hg4 B02 HSV hat4
            go_wp2_with fail
            exact ⟨⟨k + 1, g4, cap4, by go_num, by omega, by go_num, own5, B04⟩, by simp [intOf]; omega⟩
          · obtain rfl : k = ks.length := by omega
            have J := join_own ownr (by rw [List.length_append, hW0l, List.length_take, hkt]; omega) (by omega) (by rw [← hkt, List.take_length]; exact Nat.le_trans HWL.out (by omega))
            rw [← hkt, List.take_length] at J
            have hjl := HWL.out
            rw [hkt] at J
            have JJ := Lib.hid J
            have N1 : Hid ((⟨#[40]⟩ : ByteArray) ++ (⟨(Lib.join (W0 ++ kT d ks) [32]).toArray⟩ : ByteArray) ++ ⟨#[41]⟩ = ⟨R.toArray⟩) := by
              show _ = _
              rw [HR2.out]
              rw [bytes_cons, bytes_cat _ [41]]
              rfl
            clear ownr HWL J HR2
            generalize Lib.join (W0 ++ kT d ks) [32] = X at *
            go_wp2_with fail
            refine JJ.out.mono ?_; rintro e w3 ⟨rfl, hb3⟩
            clear JJ
            go_wp2_with fail
            go_ret
            exact ⟨by rw [← N1.out]; rfl, below_two (below_two K B0) hb3⟩
    · have e22 : (op == 22) = false := beq_false_of_ne h22
      obtain ⟨W0, hW0⟩ : ∃ W0, W0 = [L] := ⟨_, rfl⟩
      have hW0l : W0.length = 1 := by rw [hW0]; rfl
      have HW := Lib.hid hW0
      have HCP : Hid (L :: (cutP op p q ++ kT d ks) = W0 ++ kT d ks) := by
        show _ = _
        unfold cutP; rw [if_neg h22, hW0]; rfl
      have hwl : (Lib.join (W0 ++ kT d ks) [32]).length ≤ 280 := by rw [← HCP.out]; exact HBL.out
      have HWL := Lib.hid hwl
      have HR2 : Hid (R = 40 :: (Lib.join (W0 ++ kT d ks) [32] ++ [41])) := by
        show _ = _
        rw [HR.out, HCP.out]
      rw [← hW0] at own
      clear hW0 hwl HCP HBL hbd HL HR
      have hM0 := Lib.hid hM
      have h0 := Lib.hid h
      go_wp2_with fail
      go_loopw [5, 45] (fun s5 i wr => ∃ (k g' cap' : Nat), i = .int .i64 k ∧ k ≤ ks.length ∧ s5 = .slice (some ⟨g', 0, none⟩) (1 + k : Nat) cap' ∧ wr.ownsRow w0.heap.size 9 1 (.slice (some ⟨g', 0, none⟩) (1 + k : Nat) cap') (1 + k) (svs (W0 ++ (kT d ks).take k)) ∧ Below w0.heap.size w0 wr) (fun _ i _ => ks.length - (intOf i).toNat)
      case atStart => exact ⟨0, g, cap, rfl, Nat.zero_le _, rfl, by simpa using own, by first | exact BW | exact below_drewN BW _⟩
      case round =>
        obtain ⟨k, g', cap', rfl, hk, rfl, ownr, B0⟩ := hrel
        clear own G0 BW hM h
        have h' := h0.out.below B0
        have hM2 := hM0.out.below B0
        clear A0 A1 A2 A3 A4 A5
        by_cases hlt : k < ks.length
        · obtain ⟨d', rfl⟩ : ∃ d', d = d' + 1 := by
            cases d with
            | zero => exfalso; have := h'.1; subst this; exact Nat.not_lt_zero _ hlt
            | succ d => exact ⟨d, rfl⟩
          obtain ⟨a2, c2, S, es2, hrow, hnm, hS⟩ := h'
          cases es2
          obtain ⟨bb, off, rfl, _, x0, x1, x2, x3, x4⟩ := hrow.five hlt
          have h1k := hS k hlt
          obtain ⟨sa1, sc1, es1, _⟩ := h1k.form
          rw [es1] at x4 h1k
          have hN : NN d' (ks.getD k tz).ks ≤ 20 := by
            have := sum_at (fun i => NN d' (ks.getD i tz).ks) hlt
            have e : NN (d' + 1) ks = 1 + sumTo (fun i => NN d' (ks.getD i tz).ks) ks.length := rfl
            have h20' := HNN.out
            omega
          have hX := kT_at (d := d') hlt
          have hsv := svs_take W0 (kT (d' + 1) ks) k _ hX
          have hkid := kid_sorted HK0.out hlt
          obtain ⟨x, hx⟩ : ∃ x, x = ks.getD k tz := ⟨_, rfl⟩
          rw [← hx] at x0 x1 x2 x3 x4 hN hsv hkid h1k
          have C : Hid (∀ w', Below wr.heap.size wr w' → Calls Tryz.prog 19 #[.map (some b), .agg #[.int .i64 x.op, .int .i64 x.a, .int .i64 x.b, .string x.nm, .slice sa1 x.ks.length sc1]] w' fun e w2 => e = .returned (.string ⟨(tx1 x.op x.a x.b x.nm (kT d' x.ks)).toArray⟩) ∧ Below w'.heap.size w' w2) := fun w' hb =>
            IH d' rfl b x.op x.a x.b x.nm _ x.ks w' (hM2.below hb) (h1k.below hb) hkid hN
          generalize tx1 x.op x.a x.b x.nm (kT d' x.ks) = X at *
          have HSV := Lib.hid hsv
          have hk1 : (k : Int) < (ks.length : Int) := by omega
          clear hX hsv hkid hN h1k hS hrow hnm hx hM2 es1
          go_wp2_with fail
          refine (C.out _ (below_self_alloc _ _)).mono ?_; rintro e w3 ⟨rfl, hb3⟩
          have B02 := below_two (below_step B0 _) hb3
          have own2 := own_keep1 (ownr.alloc _) hb3
          clear C x0 x1 x2 x3 x4 hb3 ownr
          have hz3 := B02.size
          go_wp2_with (at_builtin; refine wpList_append_lies _ rfl _ _ 58 rfl w0.heap.size 9 i0 (.string ⟨#[]⟩) 1 16 Tryz.underlying58 hi hz0 hz1 hz2 rfl (by decide) _ _ _ rfl (own2.alloc _) ⟨w3.heap.size, 0, none⟩ 1 1 [.string ⟨X.toArray⟩] rfl rfl (cell_new1 _ _ _) (by intro u hu; simp at hu; subst hu; rfl) (by decide) (by unfold maxLen; omega) (by omega) (by simp; omega) _ rfl ?_; intro g4 cap4 w4 own4 hg4 hat4 hlt4; refine Hid.out ?_)
          refine Lib.hid ?_
          have B04 : Below w0.heap.size w0 w4 := (below_step B02 _).grown hg4 (by simp; omega) (fun q hq => (own2.lt q hq).1)
          have own5 : w4.ownsRow w0.heap.size 9 1 (.slice (some ⟨g4, 0, none⟩) (1 + (k + 1) : Nat) cap4) (1 + (k + 1)) (svs (W0 ++ (kT (d' + 1) ks).take (k + 1))) := by
            rw [HSV.out]; exact own4
          clear own2 own4 hg4 B02 HSV hat4
          go_wp2_with fail
          exact ⟨⟨k + 1, g4, cap4, by go_num, by omega, by go_num, own5, B04⟩, by simp [intOf]; omega⟩
        · obtain rfl : k = ks.length := by omega
          have J := join_own ownr (by rw [List.length_append, hW0l, List.length_take, hkt]; omega) (by omega) (by rw [← hkt, List.take_length]; exact Nat.le_trans HWL.out (by omega))
          rw [← hkt, List.take_length] at J
          have hjl := HWL.out
          rw [hkt] at J
          have JJ := Lib.hid J
          have N1 : Hid ((⟨#[40]⟩ : ByteArray) ++ (⟨(Lib.join (W0 ++ kT d ks) [32]).toArray⟩ : ByteArray) ++ ⟨#[41]⟩ = ⟨R.toArray⟩) := by
            show _ = _
            rw [HR2.out]
            rw [bytes_cons, bytes_cat _ [41]]
            rfl
          clear ownr HWL J HR2
          generalize Lib.join (W0 ++ kT d ks) [32] = X at *
          go_wp2_with fail
          refine JJ.out.mono ?_; rintro e w3 ⟨rfl, hb3⟩
          clear JJ
          go_wp2_with fail
          go_ret
          exact ⟨by rw [← N1.out]; rfl, below_two (below_two K B0) hb3⟩
theorem textOf_any (ds : List Dc) (hdw : DW ds) (hdn : ∀ i, i < ds.length → (ds.getD i dz).1.size ≤ 4) : ∀ d, TextC ds d
  | 0 => textOf_step ds hdw hdn 0 (fun _ e => by cases e)
  | d + 1 => textOf_step ds hdw hdn (d + 1) (fun d' e => by cases e; exact textOf_any ds hdw hdn d)
end Go.Proofs.YtfkanemjedndgaaGreatDoor
