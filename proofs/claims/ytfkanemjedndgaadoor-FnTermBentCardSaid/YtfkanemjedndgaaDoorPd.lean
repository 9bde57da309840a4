/- Rows of terms beside blocks that are written. The conditions stand in each statement. -/
import Derived.Test.YtfkanemjedndgaaDoorPc
namespace Go.Proofs.YtfkanemjedndgaaDoor
open Go.RowKit

def KeptX (B h : Nat) (w w' : World) : Prop := w.heap.size ≤ w'.heap.size ∧ ∀ k, B ≤ k → k ≠ h → k ≠ h + 1 → k < w.heap.size → w'.heap[k]? = w.heap[k]?
theorem KeptX.refl (B h : Nat) (w : World) : KeptX B h w w := ⟨Nat.le_refl _, fun _ _ _ _ _ => rfl⟩
theorem KeptX.trans {B h : Nat} {a w w1 : World} (p : KeptX B h a w) (q : KeptX B h w w1) : KeptX B h a w1 :=
  ⟨Nat.le_trans p.1 q.1, fun k a b c d => (q.2 k a b c (Nat.lt_of_lt_of_le d p.1)).trans (p.2 k a b c d)⟩
theorem Kept.x {B h : Nat} {w w' : World} (p : Kept B w w') : KeptX B h w w' := ⟨p.1, fun k a _ _ d => p.2 k a d⟩
theorem keptX_set {B h : Nat} {w w' : World} (p : KeptX B h w w') {q : Addr} (hq : q.block = h ∨ q.block = h + 1) (x : Value) : KeptX B h w (w'.setCell q x) :=
  ⟨by simpa [World.setCell] using p.1, fun k a b c d => (Below.heap_setCell _ _ _ _ (by omega)).trans (p.2 k a b c d)⟩
def KX (B h d : Nat) (w : World) (s : Value) (ks : List Tm) : Prop := ∀ w', KeptX B h w w' → SIn d w' s ks
theorem KX.on {B h d : Nat} {w w1 : World} {s : Value} {ks : List Tm} (p : KX B h d w s ks) (q : KeptX B h w w1) : KX B h d w1 s ks := fun w' k => p w' (q.trans k)
theorem KX.ks {B h d : Nat} {w : World} {s : Value} {ks : List Tm} (p : KX B h d w s ks) : KS B d w s ks := fun w' k => p w' k.x
theorem KS.kx {B h d : Nat} {w0 w : World} {s : Value} {ks : List Tm} (p : KS B d w0 s ks) (q : Kept B w0 w) (hh : w0.heap.size ≤ h) : KX B h d w s ks := fun w' k =>
  p w' ⟨Nat.le_trans q.1 k.1, fun j a b => (k.2 j a (by omega) (by omega) (Nat.lt_of_lt_of_le b q.1)).trans (q.2 j a b)⟩
def TopX (B h D : Nat) (w : World) (s : Value) (ks : List Tm) : Prop :=
  (s = .slice none 0 0 ∧ ks = []) ∨ ∃ (d b cap : Nat) (S : Nat → Value), D = d + 1 ∧ s = .slice (some ⟨b, 0, none⟩) ks.length cap ∧ RowS w (some ⟨b, 0, none⟩) ks.length cap 5 (tcell ks S) ∧ B ≤ b ∧ b < w.heap.size ∧ b ≠ h ∧ b ≠ h + 1 ∧ ∀ i, i < ks.length → KX B h d w (S i) (ks.getD i tz).ks
theorem rowS_keptX {B h : Nat} {w w' : World} {b n cap s : Nat} {f : Nat → Nat → Value} (p : RowS w (some ⟨b, 0, none⟩) n cap s f) (hk : KeptX B h w w') (hb : B ≤ b) (n0 : b ≠ h) (n1 : b ≠ h + 1) : RowS w' (some ⟨b, 0, none⟩) n cap s f := by
  obtain ⟨h1, h2, h3⟩ := p
  refine ⟨h1, h2, ?_⟩
  rcases h3 with h3 | ⟨b', off, e, hl, hc⟩
  · exact .inl h3
  · cases e
    refine .inr ⟨b, 0, rfl, Nat.lt_of_lt_of_le hl hk.1, fun i hi j hj => ?_⟩
    have := hc i hi j hj
    simpa [World.cell?, hk.2 b hb n0 n1 hl] using this
theorem TopX.on {B h D : Nat} {w w' : World} {s : Value} {ks : List Tm} (p : TopX B h D w s ks) (hk : KeptX B h w w') : TopX B h D w' s ks := by
  rcases p with p | ⟨d, b, cap, S, e, e', hr, hb, hl, n0, n1, hS⟩
  · exact .inl p
  · exact .inr ⟨d, b, cap, S, e, e', rowS_keptX hr hk hb n0 n1, hb, Nat.lt_of_lt_of_le hl hk.1, n0, n1, fun i hi => (hS i hi).on hk⟩
theorem TopX.top {B h D : Nat} {w : World} {s : Value} {ks : List Tm} (p : TopX B h D w s ks) : Top B D w s ks := by
  rcases p with p | ⟨d, b, cap, S, e, e', hr, hb, hl, n0, n1, hS⟩
  · exact .inl p
  · exact .inr ⟨d, b, cap, S, e, e', hr, hb, hl, fun i hi => (hS i hi).ks⟩
theorem Top.x {B h D : Nat} {w0 w : World} {s : Value} {ks : List Tm} (p : Top B D w0 s ks) (q : Kept B w0 w) (hh : w0.heap.size ≤ h) : TopX B h D w s ks := by
  rcases p with p | ⟨d, b, cap, S, e, e', hr, hb, hl, hS⟩
  · exact .inl p
  · exact .inr ⟨d, b, cap, S, e, e', rowS_kept hr q hb, hb, Nat.lt_of_lt_of_le hl q.1, by omega, by omega, fun i hi => (hS i hi).kx q hh⟩
theorem TopX.kx {B h D : Nat} {w : World} {s : Value} {ks : List Tm} (p : TopX B h D w s ks) (hn : ∀ i, i < ks.length → (ks.getD i tz).nm.size ≤ 9223372036854775807) : KX B h D w s ks := fun w' k => by
  rcases p with ⟨rfl, rfl⟩ | ⟨d, b, cap, S, rfl, rfl, hr, hb, hl, n0, n1, hS⟩
  · exact sIn_nil D w'
  · exact ⟨some ⟨b, 0, none⟩, cap, S, rfl, rowS_keptX hr k hb n0 n1, hn, fun i hi => hS i hi w' k⟩
theorem Top.ks {B D : Nat} {w : World} {s : Value} {ks : List Tm} (p : Top B D w s ks) (hn : ∀ i, i < ks.length → (ks.getD i tz).nm.size ≤ 9223372036854775807) : KS B D w s ks := fun w' k => by
  rcases p with ⟨rfl, rfl⟩ | ⟨d, b, cap, S, rfl, rfl, hr, hb, hl, hS⟩
  · exact sIn_nil D w'
  · exact ⟨some ⟨b, 0, none⟩, cap, S, rfl, rowS_kept hr k hb, hn, fun i hi => hS i hi w' k⟩
theorem Top.names {B D : Nat} {w : World} {s : Value} {ks : List Tm} (p : Top B D w s ks) (td : TD D ks) : ∀ i, i < ks.length → (ks.getD i tz).nm.size ≤ 9223372036854775807 := by
  rcases p with ⟨rfl, rfl⟩ | ⟨d, b, cap, S, rfl, rfl, hr, hb, hl, hS⟩
  · exact fun i hi => absurd hi (Nat.not_lt_zero _)
  · exact fun i hi => Nat.le_trans (td i hi).1.2.2.2.2.2.2 (by omega)
theorem Top.form {B D : Nat} {w : World} {s : Value} {ks : List Tm} (p : Top B D w s ks) : ∃ a cap, s = .slice a ks.length cap := by
  rcases p with ⟨rfl, rfl⟩ | ⟨d, b, cap, S, rfl, rfl, hr, hb, hl, hS⟩
  · exact ⟨_, _, rfl⟩
  · exact ⟨_, _, rfl⟩
theorem keptX_alloc (B h : Nat) (w : World) (o : Obj) : KeptX B h w (w.alloc o) := (kept_allocT B w o).x
theorem mkTopX {B h d : Nat} {w : World} {u : Tm} {s : Value} (T : TypeId) (hk : KX B h d w s u.ks) (hB : B ≤ w.heap.size) (hh : h + 1 < w.heap.size) :
    TopX B h (d + 1) (w.alloc (.cells #[.int .i64 u.op, .int .i64 u.a, .int .i64 u.b, .string u.nm, s] T)) (.slice (some ⟨w.heap.size, 0, none⟩) 1 1) [u] := by
  refine .inr ⟨d, w.heap.size, 1, fun _ => s, rfl, rfl, ⟨Nat.le_refl _, by unfold maxLen; omega, .inr ⟨w.heap.size, 0, rfl, by simp, fun i hi j hj => ?_⟩⟩, hB, by simp, by omega, by omega, fun i hi => ?_⟩
  · obtain rfl : i = 0 := by simpa using hi
    rw [World.cell?_alloc_new]
    have h5 : j = 0 ∨ j = 1 ∨ j = 2 ∨ j = 3 ∨ j = 4 := by omega
    rcases h5 with rfl | rfl | rfl | rfl | rfl <;> rfl
  · obtain rfl : i = 0 := by simpa using hi
    exact hk.on (keptX_alloc B h w _)
/-- the cells of a row of terms, as a list -/
def tflat (ks : List Tm) (S : Nat → Value) : List Value := fillS (tcell ks S) tzero ks.length 5 ks.length
theorem tflat_len (ks : List Tm) (S : Nat → Value) : (tflat ks S).length = ks.length * 5 := fillS_len _ _ _ _ _
theorem tflat_get (ks : List Tm) (S : Nat → Value) {i j : Nat} (hi : i < ks.length) (hj : j < 5) : (tflat ks S)[i * 5 + j]? = some (tcell ks S i j) := by
  unfold tflat
  rw [fillS_get _ _ _ _ _ (by omega), if_pos (by omega)]
  have e1 : (i * 5 + j) / 5 = i := by omega
  have e2 : (i * 5 + j) % 5 = j := by omega
  rw [e1, e2]
theorem tflat_news {w : World} {b cap : Nat} {ks : List Tm} {S : Nat → Value} (h : RowS w (some ⟨b, 0, none⟩) ks.length cap 5 (tcell ks S)) : ∀ j u, (tflat ks S)[j]? = some u → w.cell? ((⟨b, 0, none⟩ : Addr).add j) = some u := by
  intro j u hj
  have ea : ∀ q, (Addr.mk b 0 none).add q = ⟨b, 0 + q, none⟩ := by intro q; simp only [Addr.add]; split <;> simp_all
  have hl : j < ks.length * 5 := by have := (List.getElem?_eq_some_iff.1 hj).1; rwa [tflat_len] at this
  have e : j = j / 5 * 5 + j % 5 := by omega
  have hi : j / 5 < ks.length := by omega
  rw [e, tflat_get ks S hi (by omega)] at hj
  obtain ⟨_, _, h3⟩ := h
  rcases h3 with h3 | ⟨b', off, e', _, hc⟩
  · omega
  · cases e'
    have := hc _ hi (j % 5) (by omega)
    rw [e, ea, ← Nat.add_assoc, this]
    exact hj
theorem tflat_one {B D : Nat} {w : World} {ks : List Tm} {S : Nat → Value} (hS : ∀ i, i < ks.length → KS B D w (S i) (ks.getD i tz).ks) : ∀ u ∈ tflat ks S, u.oneCell' = true := by
  intro u hu
  obtain ⟨j, hj⟩ := List.getElem?_of_mem hu
  have hl : j < ks.length * 5 := by have := (List.getElem?_eq_some_iff.1 hj).1; rwa [tflat_len] at this
  have e : j = j / 5 * 5 + j % 5 := by omega
  have hi : j / 5 < ks.length := by omega
  rw [e, tflat_get ks S hi (by omega)] at hj
  cases hj
  have h5 : j % 5 = 0 ∨ j % 5 = 1 ∨ j % 5 = 2 ∨ j % 5 = 3 ∨ j % 5 = 4 := by omega
  rcases h5 with h | h | h | h | h <;> rw [h] <;> try rfl
  obtain ⟨a', c', e', _⟩ := (hS _ hi).now.form
  show (S (j / 5)).oneCell' = true
  rw [e']; rfl
/-- a row of its own that was grown by one term -/
theorem topOwn {B base d : Nat} {w : World} {b cap : Nat} {ks : List Tm} {u : Tm} {S : Nat → Value} {s : Value} {T : TypeId} (own : w.ownsRow base T 5 (.slice (some ⟨b, 0, none⟩) (ks.length + 1) cap) (ks.length + 1) (tflat ks S ++ [.int .i64 u.op, .int .i64 u.a, .int .i64 u.b, .string u.nm, s]))
    (hB : B ≤ base) (hS : ∀ i, i < ks.length → KS B d w (S i) (ks.getD i tz).ks) (hs : KS B d w s u.ks) : Top B (d + 1) w (.slice (some ⟨b, 0, none⟩) (ks.length + 1) cap) (ks ++ [u]) := by
  have hb := own.lt b rfl
  have e : tflat ks S ++ [.int .i64 u.op, .int .i64 u.a, .int .i64 u.b, .string u.nm, s] = fillS (tcell (ks ++ [u]) (fun i => if i = ks.length then s else S i)) tzero (ks.length + 1) 5 (ks.length + 1) := by
    apply List.ext_getElem?
    intro q
    by_cases hq : q < (ks.length + 1) * 5
    · rw [fillS_get _ _ _ _ _ hq, if_pos hq]
      have eq : q = q / 5 * 5 + q % 5 := by omega
      have h5 : q % 5 = 0 ∨ q % 5 = 1 ∨ q % 5 = 2 ∨ q % 5 = 3 ∨ q % 5 = 4 := by omega
      by_cases hi : q / 5 < ks.length
      · rw [List.getElem?_append_left (by rw [tflat_len]; omega)]
        conv => lhs; rw [eq]
        rw [tflat_get ks S hi (by omega)]
        have ne : q / 5 ≠ ks.length := by omega
        have hg : (ks ++ [u]).getD (q / 5) tz = ks.getD (q / 5) tz := snoc_getD_lt hi
        rcases h5 with h | h | h | h | h <;> rw [h] <;> simp only [tcell, hg, if_neg ne]
      · have ei : q / 5 = ks.length := by omega
        rw [List.getElem?_append_right (by rw [tflat_len]; omega), tflat_len]
        have e6 : q - ks.length * 5 = q % 5 := by omega
        rw [e6, ei]
        have hg : (ks ++ [u]).getD ks.length tz = u := snoc_getD_at
        rcases h5 with h | h | h | h | h <;> rw [h] <;> simp only [tcell, hg, if_true] <;> rfl
    · rw [List.getElem?_eq_none (by simp [tflat_len]; omega), List.getElem?_eq_none (by rw [fillS_len]; omega)]
  rw [e] at own
  obtain ⟨a, c, e2, hr⟩ := RowS.of_own (by omega) own
  cases e2
  have hlen : (ks ++ [u]).length = ks.length + 1 := by simp
  refine .inr ⟨d, b, cap, fun i => if i = ks.length then s else S i, rfl, by rw [hlen], by rw [hlen]; exact hr, Nat.le_trans hB hb.1, hb.2, fun i hi => ?_⟩
  by_cases h : i = ks.length
  · subst h; rw [snoc_getD_at]; simpa using hs
  · rw [snoc_getD_lt (by omega)]; simpa [h] using hS i (by omega)
end Go.Proofs.YtfkanemjedndgaaDoor
