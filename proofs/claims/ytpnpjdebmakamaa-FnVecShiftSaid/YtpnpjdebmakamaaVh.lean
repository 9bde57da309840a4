/- What the program's VecText comes to: for every argument. -/
import Derived.Test.YtpnpjdebmakamaaVg
namespace Go.Proofs.Ytpnpjdebmakamaa
open Go.RowKit

set_option maxHeartbeats 1000000 in
theorem vecText_impl (a b : Int) (w : World) :
    Calls Try.prog 32 #[.agg #[.int .i64 a, .int .i64 b]] w fun e w' => e = .returned (.string (vtxt a b)) ∧ Below w.heap.size w w' := by
  cases hv : vokB a b
  · have e : vtxt a b = ⟨#[]⟩ := by simp [vtxt, hv]
    rw [e]; clear e
    go_enter Try.func32, Try.ntmps32
    go_wp2_with (go_at_call 23; refine (vecOk_impl a b _).mono ?_; rintro e w' ⟨rfl, hb⟩)
    go_ret
    exact ⟨rfl, box2_below hb⟩
  · have t2 : two a.toNat ≤ 16 := vok_two hv
    obtain ⟨h1, h2, h3, h4⟩ := vokB_bd hv
    obtain ⟨i0, hi, hz0, hz1, hz2⟩ := info_parts info8
    go_enter Try.func32, Try.ntmps32
    go_wp2_with fail
    refine (vecOk_impl a b _).mono ?_; rintro e w1 ⟨rfl, hb⟩
    have p := (blk_new w (.int .i64 a) (.int .i64 b) 26).keep hb
    obtain ⟨c0, c1, hz⟩ := p.cells
    go_wp2_with fail
    go_loopw [3, 4] (fun o i wr => ∃ d : Nat, d ≤ a.toNat ∧ i = .int .i64 (a - 1 - d) ∧ wr.ownsRow w1.heap.size 5 1 o (d + 1) ((vt a.toNat b d).map bv) ∧ Below w1.heap.size w1 wr) (fun _ i _ => (intOf i + 1).toNat)
    case atStart => exact ⟨0, by omega, by simp, ⟨rfl, .inr ⟨w1.heap.size, 1, #[.int .u8 35], rfl, Nat.le_refl _, heap_alloc_new w1 _, by omega, by decide, rfl, rfl⟩⟩, below_self_alloc _ _⟩
    case round =>
      obtain ⟨d, hd, rfl, hown, hB⟩ := hrel
      by_cases hge : (0 : Int) ≤ a - 1 - d
      · have q := p.keep hB
        obtain ⟨q0, q1, qz⟩ := q.cells
        have hn : (a - 1 - (d : Int)).toNat = a.toNat - 1 - d := by omega
        have hB2 := hB.size
        clear c0 c1
        by_cases hbit : b / two (a.toNat - 1 - d) % 2 = 1
        · have D : ∀ W : World, Calls Try.prog 52 #[.int .u64 b, .int .i64 (a - 1 - (d : Int))] W fun e w' => e = .returned (.bool true) ∧ W = w' := fun W => by
            have h := bit_any b (a - 1 - (d : Int)) W h3 (by omega) (by omega) (by omega)
            rw [hn, decide_eq_true hbit] at h
            exact h
          have D' := Lib.hid D
          have V : Hid ((vt a.toNat b (d + 1)).map bv = (vt a.toNat b d).map bv ++ [.int .u8 49]) := by
            show _ = _
            simp only [vt, List.map_append, if_pos hbit]; rfl
          clear D hn hbit
          go_wp2_with fail
          refine (raw_any a b _ (by omega) (by omega)).mono ?_; rintro e w2 ⟨rfl, hb2⟩
          have hown2 := own_below hown hb2
          go_wp2_with fail
          refine (D'.out _).mono ?_; rintro e w3 ⟨rfl, rfl⟩
          have hb2z := hb2.size
          go_wp2_with (at_builtin; refine wpList_append_own _ rfl _ _ 42 rfl w1.heap.size 5 i0 (.int .u8 0) 1 1 Try.underlying42 hi hz0 hz1 hz2 rfl (by decide) _ _ _ rfl (hown2.alloc _) ⟨w2.heap.size, 0, none⟩ 1 1 [.int .u8 49] rfl rfl (cell_one_new _ _ _) (fun x hx => by simp at hx; subst hx; rfl) (by unfold maxLen; omega) (by omega) (by simp; omega) ?_; intro v' w3 hown' hgrow3 hnil3)
          refine ⟨⟨d + 1, by omega, congrArg (Value.int .i64) (by omega), by rw [V.out]; exact hown', below_grown (below_step (below_two hB hb2) _) hgrow3 (fun q hq => (hown.lt q hq).1)⟩, by simp [intOf]; omega⟩
        · have D : ∀ W : World, Calls Try.prog 52 #[.int .u64 b, .int .i64 (a - 1 - (d : Int))] W fun e w' => e = .returned (.bool false) ∧ W = w' := fun W => by
            have h := bit_any b (a - 1 - (d : Int)) W h3 (by omega) (by omega) (by omega)
            rw [hn, decide_eq_false hbit] at h
            exact h
          have D' := Lib.hid D
          have V : Hid ((vt a.toNat b (d + 1)).map bv = (vt a.toNat b d).map bv ++ [.int .u8 48]) := by
            show _ = _
            simp only [vt, List.map_append, if_neg hbit]; rfl
          clear D hn hbit
          go_wp2_with fail
          refine (raw_any a b _ (by omega) (by omega)).mono ?_; rintro e w2 ⟨rfl, hb2⟩
          have hown2 := own_below hown hb2
          go_wp2_with fail
          refine (D'.out _).mono ?_; rintro e w3 ⟨rfl, rfl⟩
          have hb2z := hb2.size
          go_wp2_with (at_builtin; refine wpList_append_own _ rfl _ _ 42 rfl w1.heap.size 5 i0 (.int .u8 0) 1 1 Try.underlying42 hi hz0 hz1 hz2 rfl (by decide) _ _ _ rfl (hown2.alloc _) ⟨w2.heap.size, 0, none⟩ 1 1 [.int .u8 48] rfl rfl (cell_one_new _ _ _) (fun x hx => by simp at hx; subst hx; rfl) (by unfold maxLen; omega) (by omega) (by simp; omega) ?_; intro v' w3 hown' hgrow3 hnil3)
          refine ⟨⟨d + 1, by omega, congrArg (Value.int .i64) (by omega), by rw [V.out]; exact hown', below_grown (below_step (below_two hB hb2) _) hgrow3 (fun q hq => (hown.lt q hq).1)⟩, by simp [intOf]; omega⟩
      · have hlen := vt_len a.toNat b d
        have hcv := conv_row (l := vt a.toNat b d) hown (by omega) (by intro h; rw [h] at hlen; simp at hlen)
        have e : vtxt a b = ⟨(vt a.toNat b d).toArray⟩ := by
          have : d = a.toNat := by omega
          simp [vtxt, hv, this]
        have E := Lib.hid e
        clear e hlen
        go_wp2_with fail
        go_ret
        exact ⟨by rw [E.out]; rfl, below_two (box2_below hb) hB⟩
end Go.Proofs.Ytpnpjdebmakamaa
