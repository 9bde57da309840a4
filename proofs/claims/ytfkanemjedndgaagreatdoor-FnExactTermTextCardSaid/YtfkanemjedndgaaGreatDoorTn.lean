/- Terms: the statements' own copies of them. The conditions stand in each statement. -/
import Derived.Test.YtfkanemjedndgaaGreatDoorTm
namespace Go.Proofs.YtfkanemjedndgaaGreatDoor
open Go.RowKit

/-- no block from B on has turned, of those that were there -/
def Kept (B : Nat) (w w' : World) : Prop := w.heap.size ≤ w'.heap.size ∧ ∀ k, B ≤ k → k < w.heap.size → w'.heap[k]? = w.heap[k]?
theorem Kept.refl (B : Nat) (w : World) : Kept B w w := ⟨Nat.le_refl _, fun _ _ _ => rfl⟩
theorem Kept.trans {B : Nat} {a w w1 : World} (h : Kept B a w) (k : Kept B w w1) : Kept B a w1 :=
  ⟨Nat.le_trans h.1 k.1, fun i hB hi => (k.2 i hB (Nat.lt_of_lt_of_le hi h.1)).trans (h.2 i hB hi)⟩
theorem Kept.mono {B B' : Nat} {a w : World} (h : Kept B a w) (hB : B ≤ B') : Kept B' a w := ⟨h.1, fun i h1 hi => h.2 i (Nat.le_trans hB h1) hi⟩
theorem kept_below {B : Nat} {w w' : World} (h : Below w.heap.size w w') : Kept B w w' := ⟨h.size, fun k _ hk => h.block k hk⟩
theorem kept_set {B : Nat} {w w' : World} (h : Kept B w w') {p : Addr} (hp : p.block < B) (x : Value) : Kept B w (w'.setCell p x) :=
  ⟨by simpa [World.setCell] using h.1, fun k hB hk => (Below.heap_setCell _ _ _ _ (by omega)).trans (h.2 k hB hk)⟩
theorem own_kept {B base size n : Nat} {w w' : World} {e : TypeId} {v : Value} {xs : List Value} (h : w.ownsRow base e size v n xs) (hk : Kept B w w') (hB : B ≤ base) : w'.ownsRow base e size v n xs := by
  refine ⟨h.1, ?_⟩
  rcases h.2 with h2 | ⟨g, cap, cur, rfl, hb, hh, r⟩
  · exact .inl h2
  · exact .inr ⟨g, cap, cur, rfl, hb, (hk.2 g (by omega) (Array.getElem?_eq_some_iff.1 hh).1).trans hh, r⟩
/-- reads as terms, and goes on so while no block from B on turns -/
def KS (B d : Nat) (w : World) (s : Value) (ks : List Tm) : Prop := ∀ w', Kept B w w' → SIn d w' s ks
theorem KS.on {B d : Nat} {w w1 : World} {s : Value} {ks : List Tm} (h : KS B d w s ks) (hk : Kept B w w1) : KS B d w1 s ks := fun w' k => h w' (hk.trans k)
theorem KS.mono {B B' d : Nat} {w : World} {s : Value} {ks : List Tm} (h : KS B d w s ks) (hB : B' ≤ B) : KS B' d w s ks := fun w' k => h w' (k.mono hB)
theorem KS.now {B d : Nat} {w : World} {s : Value} {ks : List Tm} (h : KS B d w s ks) : SIn d w s ks := h w (Kept.refl _ _)
def NewS (d : Nat) (ks : List Tm) (w : World) (e : Ending) (w' : World) : Prop := ∃ v, e = .returned v ∧ KS w.heap.size d w' v ks ∧ Below w.heap.size w w'
def NewT (d : Nat) (o a b : Int) (nm : ByteArray) (ks : List Tm) (w : World) (e : Ending) (w' : World) : Prop := ∃ s, e = .returned (.agg #[.int .i64 o, .int .i64 a, .int .i64 b, .string nm, s]) ∧ KS w.heap.size d w' s ks ∧ Below w.heap.size w w'

theorem infoTerm : (Tryz.prog.info? 33).map (fun i => (i.zero, i.size, i.bytes)) = some (some (.agg #[.int .i64 0, .int .i64 0, .int .i64 0, .string ⟨#[]⟩, .slice none 0 0]), 5, 64) := by kernel_rfl

set_option maxHeartbeats 2000000 in
theorem toTerm_of {d : Nat} (IH : ∀ (s : Value) (ks : List Tm) (w : World), SIn d w s ks → Small d ks → Calls Tryz.prog 17 #[s] w (NewS d ks w))
    (o a b : Int) (nm : ByteArray) (s : Value) (ks : List Tm) (w : World) (h : SIn d w s ks) (hs : Small d ks) :
    Calls Tryz.prog 8 #[.agg #[.int .i64 o, .int .i64 a, .int .i64 b, .string nm, s]] w (NewT d o a b nm ks w) := by
  obtain ⟨sa, sc, rfl, _⟩ := h.form
  have HS := Lib.hid hs
  have HI := Lib.hid IH
  clear hs IH
  go_enter Tryz.func8, Tryz.ntmps8
  go_wp2_with fail
  have hb0 := below_res3 (w := w) (o := .cells #[.int .i64 o, .int .i64 a, .int .i64 b, .string nm, .slice sa ks.length sc] 25) (o' := .cells #[.int .i64 0, .int .i64 0, .int .i64 0, .string ⟨#[]⟩, .slice none 0 0] 33) (o'' := .cells #[.int .i64 o, .int .i64 a, .int .i64 b, .string nm, .slice none 0 0] 33) (Below.refl _ _)
  refine (HI.out _ ks _ (h.below hb0) HS.out).mono ?_; rintro e w1 ⟨v1, rfl, K1, b1⟩
  have U : Blk5 w1 (w.heap.size + 1 + 1) (.int .i64 o) (.int .i64 a) (.int .i64 b) (.string nm) (.slice none 0 0) 33 := (blk5_new2 w _ _ _ _ _ _ _ _).keep b1
  have R : Blk5 w1 (w.heap.size + 1) (.int .i64 0) (.int .i64 0) (.int .i64 0) (.string ⟨#[]⟩) (.slice none 0 0) 33 := ((blk5_new1 w _ _ _ _ _ _ _).alloc _).keep b1
  have B1 : Below w.heap.size w w1 := below_res3 b1
  obtain ⟨a1, c1, e1, _⟩ := K1.now.form
  subst e1
  have K : Hid (KS (w.heap.size + 1 + 1 + 1) d w1 (.slice a1 ks.length c1) ks) := by have o3 := K1; simp at o3; exact o3
  obtain ⟨U0, U1, U2, U3, U4, U5⟩ := U.cells
  obtain ⟨G0, G1, G2, G3, G4⟩ := U.frozen
  obtain ⟨R0, R1, R2, R3, R4, R5⟩ := R.cells
  obtain ⟨F0, F1, F2, F3, F4⟩ := R.frozen
  clear K1 h hb0 b1
  go_wp2_with fail
  have Rf := (((((R.set_other (p := ⟨w.heap.size + 1 + 1, 4, none⟩) (z := .slice a1 ks.length c1) (by simp)).set0 (.int .i64 o)).set1 (.int .i64 a)).set2 (.int .i64 b)).set3 (.string nm)).set4 (.slice a1 ks.length c1)
  obtain ⟨r0, r1, r2, r3, r4, _⟩ := Rf.cells
  have Bf := (((((B1.setCell (p := ⟨w.heap.size + 1 + 1, 4, none⟩) (by simp; omega) (.slice a1 ks.length c1)).setCell (p := ⟨w.heap.size + 1, 0, none⟩) (by simp) (.int .i64 o)).setCell (p := ⟨w.heap.size + 1, 1, none⟩) (by simp) (.int .i64 a)).setCell (p := ⟨w.heap.size + 1, 2, none⟩) (by simp) (.int .i64 b)).setCell (p := ⟨w.heap.size + 1, 3, none⟩) (by simp) (.string nm)).setCell (p := ⟨w.heap.size + 1, 4, none⟩) (by simp) (.slice a1 ks.length c1)
  have Kf := kept_set (kept_set (kept_set (kept_set (kept_set (kept_set (Kept.refl (w.heap.size + 1 + 1 + 1) w1) (p := ⟨w.heap.size + 1 + 1, 4, none⟩) (by simp) (.slice a1 ks.length c1)) (p := ⟨w.heap.size + 1, 0, none⟩) (by simp) (.int .i64 o)) (p := ⟨w.heap.size + 1, 1, none⟩) (by simp) (.int .i64 a)) (p := ⟨w.heap.size + 1, 2, none⟩) (by simp) (.int .i64 b)) (p := ⟨w.heap.size + 1, 3, none⟩) (by simp) (.string nm)) (p := ⟨w.heap.size + 1, 4, none⟩) (by simp) (.slice a1 ks.length c1)
  exact bodyPost_ret (v := .agg #[.int .i64 o, .int .i64 a, .int .i64 b, .string nm, .slice a1 ks.length c1]) (by simp [results, Tryz.results8, go_sem, r0, r1, r2, r3, r4]) rfl ⟨_, rfl, (K.out.on Kf).mono (by omega), Bf⟩

set_option maxRecDepth 100000 in
set_option maxHeartbeats 4000000 in
theorem toTermS_any : ∀ (d : Nat) (s : Value) (ks : List Tm) (w : World), SIn d w s ks → Small d ks → Calls Tryz.prog 17 #[s] w (NewS d ks w)
  | 0, s, ks, w, h, _ => by
    obtain ⟨rfl, a, cap, rfl, _⟩ := h
    obtain ⟨i0, hi, hz0, hz1, hz2⟩ := info_parts infoTerm
    go_enter Tryz.func17, Tryz.ntmps17
    go_wp2_with (at_make; refine wpList_make_full _ rfl _ _ 31 rfl w.heap.size 33 i0 (.agg #[.int .i64 0, .int .i64 0, .int .i64 0, .string ⟨#[]⟩, .slice none 0 0]) 5 Tryz.underlying31 hi hz0 hz1 .i64 .i64 0 0 0 (by rfl) (by rfl) rfl rfl (by omega) (Nat.zero_le _) (Nat.le_refl _) ?_)
    intro w1 hown hg
    have B1 := below_grows (Below.refl w.heap.size w) hg (by simp)
    clear hown hg
    go_wp2_with fail
    go_loopw [4] (fun i wr => i = .int .i64 0 ∧ wr = w1) (fun i _ => 0)
    case atStart => exact ⟨rfl, rfl⟩
    case round =>
      obtain ⟨rfl, rfl⟩ := hrel
      go_wp2
      go_ret
      exact ⟨_, rfl, fun w' _ => ⟨rfl, _, _, rfl, Nat.zero_le _⟩, B1⟩
  | d + 1, s, ks, w, h, hs => by
    have IH := Lib.hid (toTerm_of (d := d) (toTermS_any d))
    obtain ⟨hL, hsk⟩ := hs
    obtain ⟨a, cap, S, rfl, hr, hn, hk⟩ := h
    have HK := Lib.hid hk
    have HN := Lib.hid hn
    have HSK := Lib.hid hsk
    clear hk hn hsk
    obtain ⟨i0, hi, hz0, hz1, hz2⟩ := info_parts infoTerm
    go_enter Tryz.func17, Tryz.ntmps17
    go_wp2_with (at_make; refine wpList_make_full _ rfl _ _ 31 rfl w.heap.size 33 i0 (.agg #[.int .i64 0, .int .i64 0, .int .i64 0, .string ⟨#[]⟩, .slice none 0 0]) 5 Tryz.underlying31 hi hz0 hz1 .i64 .i64 ks.length ks.length ks.length (by rfl) (by rfl) rfl rfl (by rw [hz2]; omega) (by unfold maxLen; omega) (Nat.le_refl _) ?_)
    intro w1 hown hg
    have own0 : w1.ownsRow w.heap.size 33 5 (.slice (some ⟨w.heap.size, 0, none⟩) ks.length ks.length) ks.length (fillS (tcell ks S) tzero ks.length 5 0) := by
      rw [← fillS_zero (tcell ks S) tzero ks.length 5 #[.int .i64 0, .int .i64 0, .int .i64 0, .string ⟨#[]⟩, .slice none 0 0] rfl (by omega) (by intro j hj; match j, hj with | 0, _ => rfl | 1, _ => rfl | 2, _ => rfl | 3, _ => rfl | 4, _ => rfl)]
      exact hown
    have B1 := below_grows (Below.refl w.heap.size w) hg (by simp)
    have hs1 : w.heap.size + 1 ≤ w1.heap.size ∨ ks.length = 0 := by
      rcases Nat.eq_zero_or_pos ks.length with h0 | h0
      · exact .inr h0
      · left
        have := (own0.lt w.heap.size rfl).2
        omega
    clear hown hg
    go_wp2_with fail
    go_loopw [4] (fun i wr => ∃ (k : Nat) (S' : Nat → Value), k ≤ ks.length ∧ i = .int .i64 k ∧ wr.ownsRow w.heap.size 33 5 (.slice (some ⟨w.heap.size, 0, none⟩) ks.length ks.length) ks.length (fillS (tcell ks S') tzero ks.length 5 k) ∧ Hid (∀ i, i < k → KS (w.heap.size + 1) d wr (S' i) (ks.getD i tz).ks) ∧ Below w.heap.size w wr) (fun i _ => ks.length - (intOf i).toNat)
    case atStart => exact ⟨0, S, Nat.zero_le _, rfl, own0, fun i hi => absurd hi (Nat.not_lt_zero _), B1⟩
    case round =>
      obtain ⟨k, S', hk, rfl, own, hks, B⟩ := hrel
      clear own0 B1 hs1
      by_cases hlt : k < ks.length
      · obtain ⟨b, off, rfl, _, c0, c1, c2, c3, c4⟩ := (hr.below B).five hlt
        have h1k := (HK.out k hlt).below B
        obtain ⟨sa, sc, es, _⟩ := h1k.form
        rw [es] at c4 h1k
        have C := Lib.hid (IH.out (ks.getD k tz).op (ks.getD k tz).a (ks.getD k tz).b (ks.getD k tz).nm _ (ks.getD k tz).ks wr h1k (HSK.out k hlt))
        have hsr : w.heap.size + 1 ≤ wr.heap.size := by have := (own.lt w.heap.size rfl).2; omega
        obtain ⟨x, hx⟩ : ∃ x, x = ks.getD k tz := ⟨_, rfl⟩
        rw [← hx] at c0 c1 c2 c3 c4 C
        have HX := Lib.hid hx
        clear h1k es hx hr
        go_wp2_with fail
        refine C.out.mono ?_; rintro e w2 ⟨s2, rfl, K2, hb2⟩
        have fc : fillS (tcell ks S') tzero ks.length 5 k = fillS (tcell ks (fun i => if i = k then s2 else S' i)) tzero ks.length 5 k := fillS_congr fun i hi j => by
          have : i ≠ k := by omega
          match j with
          | 0 => rfl
          | 1 => rfl
          | 2 => rfl
          | 3 => rfl
          | _ + 4 => simp [tcell, this]
        rw [fc] at own
        obtain ⟨hcf, o5⟩ := fillS_step5 (own_keep1 own hb2) hlt
        have e4 : tcell ks (fun i => if i = k then s2 else S' i) k 4 = s2 := by simp [tcell]
        simp only [e4] at o5
        simp only [tcell, ← HX.out] at o5
        obtain ⟨d0, f0⟩ := hcf 0 (by omega)
        obtain ⟨d1, f1⟩ := hcf 1 (by omega)
        obtain ⟨d2, f2⟩ := hcf 2 (by omega)
        obtain ⟨d3, f3⟩ := hcf 3 (by omega)
        obtain ⟨d4, f4⟩ := hcf 4 (by omega)
        simp only [tzero, Nat.add_zero] at d0 f0 d1 d2 d3 d4
        obtain ⟨sa2, sc2, es2, _⟩ := K2.now.form
        obtain ⟨n2, hn2⟩ : ∃ n, n = x.ks.length := ⟨_, rfl⟩
        rw [← hn2] at es2
        have e0 : ∀ j, (⟨w.heap.size, j, none⟩ : Addr).block < w.heap.size + 1 := fun j => Nat.lt_succ_self _
        have Ks := kept_set (kept_set (kept_set (kept_set (kept_set (Kept.refl (w.heap.size + 1) w2) (e0 (k * 5)) (.int .i64 x.op)) (e0 (k * 5 + 1)) (.int .i64 x.a)) (e0 (k * 5 + 2)) (.int .i64 x.b)) (e0 (k * 5 + 3)) (.string x.nm)) (e0 (k * 5 + 4)) s2
        have e00 : ∀ j, w.heap.size ≤ (⟨w.heap.size, j, none⟩ : Addr).block := fun j => Nat.le_refl _
        have B2 := Lib.hid (((((( below_two B hb2).setCell (e00 (k * 5)) (.int .i64 x.op)).setCell (e00 (k * 5 + 1)) (.int .i64 x.a)).setCell (e00 (k * 5 + 2)) (.int .i64 x.b)).setCell (e00 (k * 5 + 3)) (.string x.nm)).setCell (e00 (k * 5 + 4)) s2)
        have KN : Hid (∀ i, i < k + 1 → KS (w.heap.size + 1) d (((((w2.setCell ⟨w.heap.size, k * 5, none⟩ (.int .i64 x.op)).setCell ⟨w.heap.size, k * 5 + 1, none⟩ (.int .i64 x.a)).setCell ⟨w.heap.size, k * 5 + 2, none⟩ (.int .i64 x.b)).setCell ⟨w.heap.size, k * 5 + 3, none⟩ (.string x.nm)).setCell ⟨w.heap.size, k * 5 + 4, none⟩ s2) (if i = k then s2 else S' i) (ks.getD i tz).ks) := fun i hi => by
          by_cases e : i = k
          · rw [if_pos e, e, ← HX.out]
            exact (K2.mono hsr).on Ks
          · rw [if_neg e]
            exact (hks.out i (by omega)).on ((kept_below hb2).trans Ks)
        have O5 := Lib.hid o5
        subst es2
        clear o5 Ks K2 hb2 B hks own fc e4 hcf C hn2 e0 e00
        go_wp2_with fail
        exact ⟨⟨k + 1, _, by omega, by go_num, O5.out, KN.out, B2.out⟩, by simp [intOf]; omega⟩
      · have hk2 : k = ks.length := by omega
        subst hk2
        have OW := Lib.hid own
        clear own hr
        go_wp2_with fail
        go_ret
        refine ⟨_, rfl, fun w' hkk => ?_, B⟩
        obtain ⟨a2, c2, e2, hr2⟩ := RowS.of_own (by omega) (own_kept OW.out hkk (Nat.le_refl _))
        cases e2
        exact ⟨_, _, S', rfl, hr2, HN.out, fun i hi => hks.out i hi w' (hkk.mono (by omega))⟩
end Go.Proofs.YtfkanemjedndgaaGreatDoor
