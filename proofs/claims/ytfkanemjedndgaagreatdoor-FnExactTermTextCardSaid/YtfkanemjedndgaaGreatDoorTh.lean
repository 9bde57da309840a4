/- TermMany of the program and of the reference: both count, and stop at the limits. The conditions stand in each statement. -/
import Derived.Test.YtfkanemjedndgaaGreatDoorTg
import Derived.Deep.DeepCutAuto
namespace Go.Proofs.YtfkanemjedndgaaGreatDoor
open Go.RowKit

def sumTo (f : Nat → Nat) : Nat → Nat
  | 0 => 0
  | k + 1 => sumTo f k + f k
def maxTo (f : Nat → Nat) : Nat → Nat
  | 0 => 0
  | k + 1 => max (maxTo f k) (f k)
theorem sumTo_mono (f : Nat → Nat) {a b : Nat} (h : a ≤ b) : sumTo f a ≤ sumTo f b := by
  induction b with
  | zero => rw [show a = 0 by omega]; exact Nat.le_refl _
  | succ b ih =>
    rcases Nat.lt_or_ge b a with h1 | h1
    · rw [show a = b + 1 by omega]; exact Nat.le_refl _
    · have := ih h1; show _ ≤ sumTo f b + f b; omega
theorem maxTo_mono (f : Nat → Nat) {a b : Nat} (h : a ≤ b) : maxTo f a ≤ maxTo f b := by
  induction b with
  | zero => rw [show a = 0 by omega]; exact Nat.le_refl _
  | succ b ih =>
    rcases Nat.lt_or_ge b a with h1 | h1
    · rw [show a = b + 1 by omega]; exact Nat.le_refl _
    · have := ih h1; show _ ≤ max (maxTo f b) (f b); omega
/-- how many terms, of at most so many levels -/
def NN : Nat → List Tm → Nat
  | 0, _ => 1
  | d + 1, ks => 1 + sumTo (fun i => NN d (ks.getD i tz).ks) ks.length
/-- how deep -/
def DD : Nat → List Tm → Nat
  | 0, _ => 1
  | d + 1, ks => 1 + maxTo (fun i => DD d (ks.getD i tz).ks) ks.length
def kN : Nat → List Tm → Nat → Nat
  | 0, _, _ => 1
  | d + 1, ks, i => NN d (ks.getD i tz).ks
def kD : Nat → List Tm → Nat → Nat
  | 0, _, _ => 1
  | d + 1, ks, i => DD d (ks.getD i tz).ks
theorem NN_eq {d : Nat} {w : World} {s : Value} {ks : List Tm} (h : SIn d w s ks) : NN d ks = 1 + sumTo (kN d ks) ks.length := by
  cases d with
  | zero => obtain ⟨rfl, _⟩ := h; rfl
  | succ d => rfl
theorem DD_eq {d : Nat} {w : World} {s : Value} {ks : List Tm} (h : SIn d w s ks) : DD d ks = 1 + maxTo (kD d ks) ks.length := by
  cases d with
  | zero => obtain ⟨rfl, _⟩ := h; rfl
  | succ d => rfl
/-- what TermMany answers -/
def TMV (N D : Nat) (x y : Int) : Prop := (N ≤ 20 ∧ D ≤ 7 → x = N ∧ y = D) ∧ (¬ (N ≤ 20 ∧ D ≤ 7) → x = 21 ∧ y = 8)
theorem TMV.one {N D : Nat} {x y x' y' : Int} (h : TMV N D x y) (h' : TMV N D x' y') : x = x' ∧ y = y' := by unfold TMV at *; omega
def ManyRet (N D : Nat) (w : World) (e : Ending) (w' : World) : Prop :=
  ∃ x y : Int, e = .returned (.tuple #[.int .i64 x, .int .i64 y]) ∧ 0 ≤ x ∧ x ≤ 21 ∧ 0 ≤ y ∧ y ≤ 8 ∧ TMV N D x y ∧ Below w.heap.size w w'
def StV (s m : Nat) (n dp : Int) : Prop := (1 + s ≤ 20 ∧ m ≤ 6 → n = 1 + s ∧ dp = m) ∧ (¬ (1 + s ≤ 20 ∧ m ≤ 6) → n > 20 ∨ dp > 6)
theorem StV.step {s m N D : Nat} {n dp x y : Int} (h : StV s m n dp) (hn : n ≤ 20) (h2 : TMV N D x y) : StV (s + N) (max m D) (n + x) (max dp y) := by unfold StV TMV at *; omega
theorem StV.stop {s m S M : Nat} {n dp : Int} (h : StV s m n dp) (hn : n > 20) (h1 : s ≤ S) (_h2 : m ≤ M) : TMV (1 + S) (1 + M) 21 8 := by unfold StV TMV at *; omega
theorem StV.over {s m : Nat} {n dp : Int} (h : StV s m n dp) (hn : ¬ n > 20) (h2 : dp + 1 > 7) : TMV (1 + s) (1 + m) 21 8 := by unfold StV TMV at *; omega
theorem StV.good {s m : Nat} {n dp : Int} (h : StV s m n dp) (hn : ¬ n > 20) (h2 : ¬ dp + 1 > 7) : TMV (1 + s) (1 + m) n (dp + 1) := by unfold StV TMV at *; omega

theorem l1Max_any (a b : Int) (w : World) : Calls Tryz.prog 39 #[.int .i64 a, .int .i64 b] w fun e w' => e = .returned (.int .i64 (max a b)) ∧ w = w' := by
  by_cases h : a > b
  · rw [show max a b = a by omega]
    go_enter Tryz.func39, Tryz.ntmps39
    go_wp2
    go_ret
    exact ⟨rfl, rfl⟩
  · rw [show max a b = b by omega]
    go_enter Tryz.func39, Tryz.ntmps39
    go_wp2
    go_ret
    exact ⟨rfl, rfl⟩

set_option linter.unusedVariables false in
set_option maxHeartbeats 4000000 in
theorem termMany_of (d : Nat) (IH : ∀ d', d = d' + 1 → ∀ (o a b : Int) (nm : ByteArray) (s : Value) (ks : List Tm) (w : World), SIn d' w s ks → Calls Tryz.prog 23 #[.agg #[.int .i64 o, .int .i64 a, .int .i64 b, .string nm, s]] w (ManyRet (NN d' ks) (DD d' ks) w))
    (o a b : Int) (nm : ByteArray) (s : Value) (ks : List Tm) (w : World) (h : SIn d w s ks) :
    Calls Tryz.prog 23 #[.agg #[.int .i64 o, .int .i64 a, .int .i64 b, .string nm, s]] w (ManyRet (NN d ks) (DD d ks) w) := by
  rw [NN_eq h, DD_eq h]
  have hl := h.len
  obtain ⟨sa, sc, es, _⟩ := h.form
  subst es
  have hb := below_self_alloc w (.cells #[.int .i64 o, .int .i64 a, .int .i64 b, .string nm, .slice sa ks.length sc] 33)
  have A := blk5_new w (.int .i64 o) (.int .i64 a) (.int .i64 b) (.string nm) (.slice sa ks.length sc) 33
  replace h := h.below hb
  have IHH := Lib.hid IH
  clear IH
  go_enter Tryz.func23, Tryz.ntmps23
  go_wp2_with fail
  go_loopw [6, 4, 5] (fun i q r wr => ∃ (k : Nat) (n dp : Int), k ≤ ks.length ∧ i = .int .i64 k ∧ q = .int .i64 n ∧ r = .int .i64 dp ∧ 0 ≤ n ∧ n ≤ 41 ∧ 0 ≤ dp ∧ dp ≤ 8 ∧ Hid (StV (sumTo (kN d ks) k) (maxTo (kD d ks) k) n dp) ∧ Blk5 wr w.heap.size (.int .i64 o) (.int .i64 a) (.int .i64 b) (.string nm) (.slice sa ks.length sc) 33 ∧ SIn d wr (.slice sa ks.length sc) ks ∧ Below w.heap.size w wr) (fun i _ _ _ => ks.length - (intOf i).toNat)
  case atStart => exact ⟨0, 1, 0, Nat.zero_le _, rfl, rfl, rfl, by omega, by omega, by omega, by omega, by show StV 0 0 1 0; unfold StV; omega, A, h, hb⟩
  case round =>
    clear A h hb
    obtain ⟨k, n, dp, hk, rfl, rfl, rfl, n0, n1, p0, p1, hS, A, h, K⟩ := hrel
    obtain ⟨A0, A1, A2, A3, A4, A5⟩ := A.cells
    by_cases hlt : k < ks.length
    · by_cases hn : n ≤ 20
      · cases d with
        | zero => obtain ⟨rfl, _⟩ := h; exact absurd hlt (Nat.not_lt_zero _)
        | succ d =>
          have h0 := h
          obtain ⟨a', cap', S, e, hr, hnm, hkk⟩ := h
          cases e
          obtain ⟨bb, off, rfl, _, c0, c1, c2, c3, c4⟩ := hr.five hlt
          have h1k := hkk k hlt
          obtain ⟨ka, kc, es, _⟩ := h1k.form
          rw [es] at c4 h1k
          obtain ⟨x, hx⟩ : ∃ x, x = ks.getD k tz := ⟨_, rfl⟩
          rw [← hx] at c0 c1 c2 c3 c4 h1k
          have C := Lib.hid (IHH.out d rfl x.op x.a x.b x.nm _ x.ks wr h1k)
          have HS2 : Hid (∀ x1 y1 : Int, TMV (NN d x.ks) (DD d x.ks) x1 y1 → StV (sumTo (kN (d + 1) ks) (k + 1)) (maxTo (kD (d + 1) ks) (k + 1)) (n + x1) (max dp y1)) := fun x1 y1 ht => by
            rw [hx] at ht
            exact StV.step hS.out hn ht
          clear h1k es hx hS hr hnm hkk
          have hk1 : (k : Int) < (ks.length : Int) := by omega
          go_wp2_with fail
          refine C.out.mono ?_; rintro e w1 ⟨x1, y1, rfl, x10, x11, y10, y11, hT, hb1⟩
          clear A0 A1 A2 A3 A4 A5 c0 c1 c2 c3 c4 C
          replace A := A.keep hb1
          replace h0 := h0.below hb1
          replace K := below_two K hb1
          clear hb1
          have HS3 := Lib.hid (HS2.out x1 y1 hT)
          clear HS2 hT
          obtain ⟨A0, A1, A2, A3, A4, A5⟩ := A.cells
          go_wp2_with fail
          refine (l1Max_any _ _ _).mono ?_; rintro e w2 ⟨rfl, rfl⟩
          go_wp2_with fail
          exact ⟨⟨k + 1, n + x1, max dp y1, by omega, by go_num, rfl, rfl, by omega, by omega, by omega, by omega, HS3.out, A, h0, K⟩, by simp [intOf]; omega⟩
      · have hN : Hid (TMV (1 + sumTo (kN d ks) ks.length) (1 + maxTo (kD d ks) ks.length) 21 8) := hS.out.stop (by omega) (sumTo_mono _ hk) (maxTo_mono _ hk)
        clear hS
        go_wp2_with fail
        exact bodyPost_ret (v := .tuple #[.int .i64 21, .int .i64 8]) (by simp [results, Tryz.results23, go_sem]) rfl ⟨21, 8, rfl, by omega, by omega, by omega, by omega, hN.out, K⟩
    · obtain rfl : k = ks.length := by omega
      by_cases hn : n > 20
      · have hN : Hid (TMV (1 + sumTo (kN d ks) ks.length) (1 + maxTo (kD d ks) ks.length) 21 8) := hS.out.stop (by omega) (Nat.le_refl _) (Nat.le_refl _)
        clear hS
        go_wp2_with fail
        exact bodyPost_ret (v := .tuple #[.int .i64 21, .int .i64 8]) (by simp [results, Tryz.results23, go_sem]) rfl ⟨21, 8, rfl, by omega, by omega, by omega, by omega, hN.out, K⟩
      · by_cases hp : dp + 1 > 7
        · have hN : Hid (TMV (1 + sumTo (kN d ks) ks.length) (1 + maxTo (kD d ks) ks.length) 21 8) := hS.out.over hn hp
          clear hS
          go_wp2_with fail
          exact bodyPost_ret (v := .tuple #[.int .i64 21, .int .i64 8]) (by simp [results, Tryz.results23, go_sem]) rfl ⟨21, 8, rfl, by omega, by omega, by omega, by omega, hN.out, K⟩
        · have hN : Hid (TMV (1 + sumTo (kN d ks) ks.length) (1 + maxTo (kD d ks) ks.length) n (dp + 1)) := hS.out.good hn hp
          clear hS
          go_wp2_with fail
          exact bodyPost_ret (v := .tuple #[.int .i64 n, .int .i64 (dp + 1)]) (by simp [results, Tryz.results23, go_sem]) rfl ⟨n, dp + 1, rfl, by omega, by omega, by omega, by omega, hN.out, K⟩
theorem termMany_spec : ∀ (d : Nat) (o a b : Int) (nm : ByteArray) (s : Value) (ks : List Tm) (w : World), SIn d w s ks → Calls Tryz.prog 23 #[.agg #[.int .i64 o, .int .i64 a, .int .i64 b, .string nm, s]] w (ManyRet (NN d ks) (DD d ks) w)
  | 0, o, a, b, nm, s, ks, w, h => termMany_of 0 (fun _ e => by cases e) o a b nm s ks w h
  | d + 1, o, a, b, nm, s, ks, w, h => termMany_of (d + 1) (fun d' e => by cases e; exact termMany_spec d) o a b nm s ks w h

/-- what count answers, counting from m, at a depth -/
def CV (N D : Nat) (m dp x m' : Int) : Prop := (m + N ≤ 20 ∧ dp + D ≤ 8 → x = dp + D - 1 ∧ m' = m + N) ∧ (¬ (m + N ≤ 20 ∧ dp + D ≤ 8) → x > 7 ∨ m' > 20)
def CntRet (N D : Nat) (m dp : Int) (p : Nat) (w0 : World) (e : Ending) (w' : World) : Prop :=
  ∃ x m' : Int, e = .returned (.int .i64 x) ∧ 0 ≤ x ∧ x ≤ 8 ∧ 0 ≤ m' ∧ m' ≤ 21 ∧ CV N D m dp x m' ∧ Blk1 w' p (.int .i64 m') 3 ∧ Below w0.heap.size w0 w'
def CS (m dp : Int) (s M : Nat) (x m' : Int) : Prop := (m + 1 + s ≤ 20 ∧ dp + M ≤ 7 → x = dp + M ∧ m' = m + 1 + s) ∧ (¬ (m + 1 + s ≤ 20 ∧ dp + M ≤ 7) → x > 7 ∨ m' > 20)
theorem CS.step {m dp : Int} {s M N D : Nat} {x q y q' : Int} (h : CS m dp s M x q) (hq : q ≤ 20) (h2 : CV N D q (dp + 1) y q') : CS m dp (s + N) (max M D) (max x y) q' := by unfold CS CV at *; omega
theorem CS.stop {m dp : Int} {s M S M' : Nat} {x q : Int} (h : CS m dp s M x q) (hq : q > 20) (h1 : s ≤ S) (_h2 : M ≤ M') : CV (1 + S) (1 + M') m dp x q := by unfold CS CV at *; omega
theorem CS.full {m dp : Int} {s M : Nat} {x q : Int} (h : CS m dp s M x q) : CV (1 + s) (1 + M) m dp x q := by unfold CS CV at *; omega

set_option linter.unusedVariables false in
set_option maxHeartbeats 4000000 in
theorem count_of (d : Nat) (IH : ∀ d', d = d' + 1 → ∀ (o a b : Int) (nm : ByteArray) (s : Value) (ks : List Tm) (w0 w : World) (m dp : Int) (p : Nat), SIn d' w0 s ks → Below w0.heap.size w0 w → w0.heap.size ≤ p → Blk1 w p (.int .i64 m) 3 → 0 ≤ m → m ≤ 20 → 0 ≤ dp → dp ≤ 8 → Calls Tryz.prog 47 #[.agg #[.int .i64 o, .int .i64 a, .int .i64 b, .string nm, s], .int .i64 dp, .pointer (some ⟨p, 0, none⟩)] w (CntRet (NN d' ks) (DD d' ks) m dp p w0))
    (o a b : Int) (nm : ByteArray) (s : Value) (ks : List Tm) (w0 w : World) (m dp : Int) (p : Nat) (h : SIn d w0 s ks) (B : Below w0.heap.size w0 w) (hp : w0.heap.size ≤ p) (P : Blk1 w p (.int .i64 m) 3) (m0 : 0 ≤ m) (m1 : m ≤ 20) (p0 : 0 ≤ dp) (p1 : dp ≤ 8) :
    Calls Tryz.prog 47 #[.agg #[.int .i64 o, .int .i64 a, .int .i64 b, .string nm, s], .int .i64 dp, .pointer (some ⟨p, 0, none⟩)] w (CntRet (NN d ks) (DD d ks) m dp p w0) := by
  rw [NN_eq h, DD_eq h]
  have hl := h.len
  obtain ⟨sa, sc, es, _⟩ := h.form
  subst es
  have hb := B.alloc B.size (.cells #[.int .i64 o, .int .i64 a, .int .i64 b, .string nm, .slice sa ks.length sc] 33)
  have A := blk5_new w (.int .i64 o) (.int .i64 a) (.int .i64 b) (.string nm) (.slice sa ks.length sc) 33
  have hne : ¬ w.heap.size = p := Nat.ne_of_gt P.lt
  replace P := P.alloc (.cells #[.int .i64 o, .int .i64 a, .int .i64 b, .string nm, .slice sa ks.length sc] 33)
  have P' := P.set0 (.int .i64 (m + 1))
  have A' := A.set_other (p := ⟨p, 0, none⟩) (z := .int .i64 (m + 1)) hne
  have hb' := hb.setCell (p := ⟨p, 0, none⟩) hp (.int .i64 (m + 1))
  have IHH := Lib.hid IH
  clear IH hb A
  obtain ⟨P0, P1⟩ := P.cells
  have Pf := P.frozen
  obtain ⟨A0, A1, A2, A3, A4, A5⟩ := A'.cells
  by_cases h7 : dp > 7
  · have hN : Hid (CV (1 + sumTo (kN d ks) ks.length) (1 + maxTo (kD d ks) ks.length) m dp dp (m + 1)) := by show CV _ _ _ _ _ _; unfold CV; omega
    go_enter Tryz.func47, Tryz.ntmps47
    go_wp2_with fail
    go_ret
    exact ⟨dp, m + 1, rfl, by omega, by omega, by omega, by omega, hN.out, P', hb'⟩
  · go_enter Tryz.func47, Tryz.ntmps47
    go_wp2_with fail
    go_loopw [22, 7] (fun i q wr => ∃ (k : Nat) (x c : Int), k ≤ ks.length ∧ i = .int .i64 k ∧ q = .int .i64 x ∧ 0 ≤ x ∧ x ≤ 8 ∧ 0 ≤ c ∧ c ≤ 21 ∧ Hid (CS m dp (sumTo (kN d ks) k) (maxTo (kD d ks) k) x c) ∧ Blk1 wr p (.int .i64 c) 3 ∧ Below w0.heap.size w0 wr) (fun i _ _ => ks.length - (intOf i).toNat)
    case atStart => exact ⟨0, dp, m + 1, Nat.zero_le _, rfl, rfl, by omega, by omega, by omega, by omega, by show CS m dp 0 0 dp (m + 1); unfold CS; omega, P', hb'⟩
    case round =>
      clear P P0 P1 Pf P' hb' A0 A1 A2 A3 A4 A5 A' B
      obtain ⟨k, x, c, hk, rfl, rfl, x0, x1, c0, c1, hS, P, K⟩ := hrel
      obtain ⟨P0, P1⟩ := P.cells
      by_cases hlt : k < ks.length
      · cases d with
        | zero => obtain ⟨rfl, _⟩ := h; exact absurd hlt (Nat.not_lt_zero _)
        | succ d =>
          obtain ⟨a', cap', S, e, hr, hnm, hkk⟩ := h
          cases e
          obtain ⟨bb, off, rfl, _, k0, k1, k2, k3, k4⟩ := (hr.below K).five hlt
          have h1k := hkk k hlt
          obtain ⟨ka, kc, es, _⟩ := h1k.form
          rw [es] at k4 h1k
          obtain ⟨t, ht⟩ : ∃ t, t = ks.getD k tz := ⟨_, rfl⟩
          rw [← ht] at k0 k1 k2 k3 k4 h1k
          have B2 := blk5_new wr (.int .i64 t.op) (.int .i64 t.a) (.int .i64 t.b) (.string t.nm) (.slice ka t.ks.length kc) 33
          have P2 := P.alloc (.cells #[.int .i64 t.op, .int .i64 t.a, .int .i64 t.b, .string t.nm, .slice ka t.ks.length kc] 33)
          have K2 := K.alloc K.size (.cells #[.int .i64 t.op, .int .i64 t.a, .int .i64 t.b, .string t.nm, .slice ka t.ks.length kc] 33)
          by_cases hc : c > 20
          · have hN : Hid (CV (1 + sumTo (kN (d + 1) ks) ks.length) (1 + maxTo (kD (d + 1) ks) ks.length) m dp x c) := hS.out.stop hc (sumTo_mono _ hk) (maxTo_mono _ hk)
            obtain ⟨P20, P21⟩ := P2.cells
            clear hS h1k es ht hr hnm hkk IHH P0 P1 B2
            have hk1 : (k : Int) < (ks.length : Int) := by omega
            go_wp2_with fail
            go_ret
            exact ⟨x, c, rfl, by omega, by omega, by omega, by omega, hN.out, P2, K2⟩
          · have C := Lib.hid (IHH.out d rfl t.op t.a t.b t.nm _ t.ks w0 _ c (dp + 1) p h1k K2 hp P2 (by omega) (by omega) (by omega) (by omega))
            have HS2 : Hid (∀ y q' : Int, CV (NN d t.ks) (DD d t.ks) c (dp + 1) y q' → CS m dp (sumTo (kN (d + 1) ks) (k + 1)) (maxTo (kD (d + 1) ks) (k + 1)) (max x y) q') := fun y q' h => by
              rw [ht] at h
              exact CS.step hS.out (by omega) h
            obtain ⟨P20, P21⟩ := P2.cells
            obtain ⟨B20, B21, B22, B23, B24, B25⟩ := B2.cells
            clear h1k es ht hS hr hnm hkk P0 P1
            have hk1 : (k : Int) < (ks.length : Int) := by omega
            go_wp2_with fail
            refine C.out.mono ?_; rintro e w1 ⟨y, q', rfl, y0, y1, q0, q1, hT, P3, K3⟩
            have HS3 := Lib.hid (HS2.out y q' hT)
            clear C HS2 hT k0 k1 k2 k3 k4 B20 B21 B22 B23 B24 B25 P20 P21 B2 P2 K2
            go_wp2_with fail
            exact ⟨⟨k + 1, max x y, q', by omega, by go_num, congrArg _ (by split <;> omega), by omega, by omega, by omega, by omega, HS3.out, P3, K3⟩, by simp [intOf]; omega⟩
      · obtain rfl : k = ks.length := by omega
        have hN := Lib.hid hS.out.full
        clear hS
        go_wp2_with fail
        go_ret
        exact ⟨x, c, rfl, by omega, by omega, by omega, by omega, hN.out, P, K⟩
theorem count_any : ∀ (d : Nat) (o a b : Int) (nm : ByteArray) (s : Value) (ks : List Tm) (w0 w : World) (m dp : Int) (p : Nat), SIn d w0 s ks → Below w0.heap.size w0 w → w0.heap.size ≤ p → Blk1 w p (.int .i64 m) 3 → 0 ≤ m → m ≤ 20 → 0 ≤ dp → dp ≤ 8 → Calls Tryz.prog 47 #[.agg #[.int .i64 o, .int .i64 a, .int .i64 b, .string nm, s], .int .i64 dp, .pointer (some ⟨p, 0, none⟩)] w (CntRet (NN d ks) (DD d ks) m dp p w0)
  | 0, o, a, b, nm, s, ks, w0, w, m, dp, p, h, B, hp, P, m0, m1, p0, p1 => count_of 0 (fun _ e => by cases e) o a b nm s ks w0 w m dp p h B hp P m0 m1 p0 p1
  | d + 1, o, a, b, nm, s, ks, w0, w, m, dp, p, h, B, hp, P, m0, m1, p0, p1 => count_of (d + 1) (fun d' e => by cases e; exact count_any d) o a b nm s ks w0 w m dp p h B hp P m0 m1 p0 p1

set_option maxHeartbeats 4000000 in
theorem termMany_impl (d : Nat) (o a b : Int) (nm : ByteArray) (s : Value) (ks : List Tm) (w : World) (h : SIn d w s ks) :
    Calls Tryz.prog 29 #[.agg #[.int .i64 o, .int .i64 a, .int .i64 b, .string nm, s]] w (ManyRet (NN d ks) (DD d ks) w) := by
  obtain ⟨sa, sc, es, _⟩ := h.form
  subst es
  have hb := below_self_alloc w (.cells #[.int .i64 o, .int .i64 a, .int .i64 b, .string nm, .slice sa ks.length sc] 33)
  have hb2 := below_step hb (.cells #[.int .i64 0] 3)
  have A := (blk5_new w (.int .i64 o) (.int .i64 a) (.int .i64 b) (.string nm) (.slice sa ks.length sc) 33).alloc (.cells #[.int .i64 0] 3)
  have P := blk1_new1 w (.cells #[.int .i64 o, .int .i64 a, .int .i64 b, .string nm, .slice sa ks.length sc] 33) (.int .i64 0) 3
  have C := Lib.hid (count_any d o a b nm _ ks w _ 0 1 (w.heap.size + 1) h hb2 (by omega) P (by omega) (by omega) (by omega) (by omega))
  obtain ⟨A0, A1, A2, A3, A4, A5⟩ := A.cells
  clear hb hb2 h
  go_enter Tryz.func29, Tryz.ntmps29
  go_wp2_with fail
  refine C.out.mono ?_; rintro e w1 ⟨x, q, rfl, x0, x1, q0, q1, hT, P3, K⟩
  clear C A A0 A1 A2 A3 A4 A5 P
  obtain ⟨P30, P31⟩ := P3.cells
  by_cases hq : q > 20
  · have hN : Hid (TMV (NN d ks) (DD d ks) 21 8) := by show TMV _ _ _ _; unfold TMV CV at *; omega
    clear hT
    go_wp2_with fail
    exact bodyPost_ret (v := .tuple #[.int .i64 21, .int .i64 8]) (by simp [results, Tryz.results29, go_sem]) rfl ⟨21, 8, rfl, by omega, by omega, by omega, by omega, hN.out, K⟩
  · by_cases hx : x > 7
    · have hN : Hid (TMV (NN d ks) (DD d ks) 21 8) := by show TMV _ _ _ _; unfold TMV CV at *; omega
      clear hT
      go_wp2_with fail
      exact bodyPost_ret (v := .tuple #[.int .i64 21, .int .i64 8]) (by simp [results, Tryz.results29, go_sem]) rfl ⟨21, 8, rfl, by omega, by omega, by omega, by omega, hN.out, K⟩
    · have hN : Hid (TMV (NN d ks) (DD d ks) q x) := by show TMV _ _ _ _; unfold TMV CV at *; omega
      clear hT
      go_wp2_with fail
      exact bodyPost_ret (v := .tuple #[.int .i64 q, .int .i64 x]) (by simp [results, Tryz.results29, go_sem]) rfl ⟨q, x, rfl, by omega, by omega, by omega, by omega, hN.out, K⟩
end Go.Proofs.YtfkanemjedndgaaGreatDoor
