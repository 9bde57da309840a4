/- The plain law of FnTermBent: a right term is not right with a kid more, with another name, or within too many others. The conditions stand in each statement. -/
import Derived.Test.YtfkanemjedndgaaDoorKn
namespace Go.Proofs.YtfkanemjedndgaaDoor
open Go.RowKit

theorem sumTo_congr {f f' : Nat → Nat} {n : Nat} (h : ∀ i, i < n → f i = f' i) : sumTo f n = sumTo f' n := by
  induction n with
  | zero => rfl
  | succ n ih =>
    have h1 := ih (fun i hi => h i (by omega))
    have h2 := h n (by omega)
    show sumTo f n + f n = sumTo f' n + f' n
    rw [h1, h2]
theorem maxTo_congr {f f' : Nat → Nat} {n : Nat} (h : ∀ i, i < n → f i = f' i) : maxTo f n = maxTo f' n := by
  induction n with
  | zero => rfl
  | succ n ih =>
    have h1 := ih (fun i hi => h i (by omega))
    have h2 := h n (by omega)
    show max (maxTo f n) (f n) = max (maxTo f' n) (f' n)
    rw [h1, h2]
theorem NN_up : ∀ {d : Nat} {w : World} {s : Value} {ks : List Tm}, SIn d w s ks → NN (d + 1) ks = NN d ks
  | 0, _, _, _, ⟨h, _⟩ => by subst h; rfl
  | d + 1, _, _, ks, ⟨_, _, _, _, _, _, hk⟩ => by
    show 1 + sumTo (fun i => NN (d + 1) (ks.getD i tz).ks) ks.length = 1 + sumTo (fun i => NN d (ks.getD i tz).ks) ks.length
    rw [sumTo_congr (fun i hi => NN_up (hk i hi))]
theorem DD_up : ∀ {d : Nat} {w : World} {s : Value} {ks : List Tm}, SIn d w s ks → DD (d + 1) ks = DD d ks
  | 0, _, _, _, ⟨h, _⟩ => by subst h; rfl
  | d + 1, _, _, ks, ⟨_, _, _, _, _, _, hk⟩ => by
    show 1 + maxTo (fun i => DD (d + 1) (ks.getD i tz).ks) ks.length = 1 + maxTo (fun i => DD d (ks.getD i tz).ks) ks.length
    rw [maxTo_congr (fun i hi => DD_up (hk i hi))]
theorem kS_up (ds : List Dc) : ∀ {d : Nat} {w : World} {s : Value} {ks : List Tm}, SIn d w s ks → kS ds (d + 1) ks = kS ds d ks
  | 0, _, _, _, ⟨h, _⟩ => by subst h; rfl
  | d + 1, _, _, ks, ⟨_, _, _, _, _, _, hk⟩ => by
    show ks.map (fun t => SV1 ds t.op t.a t.b t.nm (kS ds (d + 1) t.ks)) = ks.map (fun t => SV1 ds t.op t.a t.b t.nm (kS ds d t.ks))
    refine List.map_congr_left fun t ht => ?_
    obtain ⟨i, hi, rfl⟩ := List.getElem_of_mem ht
    have := kS_up ds (hk i hi)
    rw [List.getD_eq_getElem?_getD, List.getElem?_eq_getElem hi] at this
    simp only [Option.getD_some] at this
    rw [this]
theorem TSV_up (ds : List Dc) {d : Nat} {w : World} {s : Value} {ks : List Tm} (h : SIn d w s ks) (op a b : Int) (nm : ByteArray) : TSV ds (d + 1) op a b nm ks = TSV ds d op a b nm ks := by
  unfold TSV; rw [NN_up h, DD_up h, kS_up ds h]
theorem TSV_right {ds : List Dc} {d : Nat} {op a b : Int} {nm : ByteArray} {ks : List Tm} (h : 0 ≤ TSV ds d op a b nm ks) :
    declV ds = true ∧ NN d ks ≤ 20 ∧ DD d ks ≤ 7 ∧ known op = true ∧ ((kS ds d ks).length : Int) = arity op ∧ plainB op a b nm = true ∧ (∀ s ∈ kS ds d ks, s ≠ -1) ∧ TSV ds d op a b nm ks = SVb ds op a b nm (kS ds d ks) := by
  have h0 : TSV ds d op a b nm ks = TSV ds d op a b nm ks := rfl
  unfold TSV at h h0
  split at h
  · next c =>
    unfold SV1 at h
    split at h
    · next c2 => exact ⟨c.1, c.2.1, c.2.2, c2.1, c2.2.1, c2.2.2.1, c2.2.2.2, by unfold TSV SV1; rw [if_pos c, if_pos c2]⟩
    · omega
  · omega
/-- a kid more -/
theorem bent_kid {ds : List Dc} {d d' : Nat} {op a b : Int} {nm : ByteArray} {ks ks' : List Tm} (h : 0 ≤ TSV ds d op a b nm ks) (hl : (kS ds d' ks').length ≠ (kS ds d ks).length) : TSV ds d' op a b nm ks' = -1 := by
  obtain ⟨_, _, _, _, h5, _⟩ := TSV_right h
  unfold TSV
  split
  · unfold SV1
    rw [if_neg (fun c => hl (by have := c.2.1; omega))]
  · rfl
/-- too deep -/
theorem bent_deep {ds : List Dc} {d : Nat} {op a b : Int} {nm : ByteArray} {ks : List Tm} (h : 8 ≤ DD d ks) : TSV ds d op a b nm ks = -1 := by
  unfold TSV
  rw [if_neg (fun c => by have := c.2.2; omega)]
/-- another name -/
theorem bent_name {ds : List Dc} {d : Nat} {op a b : Int} {nm nm' : ByteArray} {ks : List Tm} (h : 0 ≤ TSV ds d op a b nm ks) (hn : 5 ≤ nm'.size) : TSV ds d op a b nm' ks = -1 := by
  obtain ⟨hd, h2, h3, h4, h5, h6, h7, _⟩ := TSV_right h
  have ne : nm' ≠ ⟨#[]⟩ := fun e => by rw [e] at hn; simp [ByteArray.size] at hn
  unfold TSV
  rw [if_pos ⟨hd, h2, h3⟩]
  unfold SV1
  by_cases h21 : op = 21
  · subst h21
    split
    · have hD := declV_true.1 hd
      have hf : findV ds nm' ds.length = -1 := findV_none (fun j hj e => by have := (hD.2.1 j hj).1.2.2.1; rw [e] at this; omega)
      unfold SVb
      simp [hf, orNo]
    · rfl
  · rw [if_neg]
    intro c
    have := c.2.2.1
    unfold plainB at this
    simp [h21, ne] at this
/-- a number where the answer to a question is wanted, and the other way about -/
theorem bent_not {ds : List Dc} {d : Nat} {u : Tm} {r : Int} (hr : r = TSV ds d u.op u.a u.b u.nm u.ks) (h0 : 0 < r) : TSV ds (d + 1) 25 0 0 ⟨#[]⟩ [u] = -1 := by
  subst hr
  obtain ⟨hd, h2, h3, h4, h5, h6, h7, h8⟩ := TSV_right (ds := ds) (d := d) (op := u.op) (a := u.a) (b := u.b) (nm := u.nm) (ks := u.ks) (by omega)
  unfold TSV
  split
  · have hs : kS ds (d + 1) [u] = [TSV ds d u.op u.a u.b u.nm u.ks] := by
      show [SV1 ds u.op u.a u.b u.nm (kS ds d u.ks)] = _
      unfold TSV
      rw [if_pos ⟨hd, h2, h3⟩]
    unfold SV1
    rw [hs]
    split
    · unfold SVb
      simp [orNo]; omega
    · rfl
  · rfl
theorem bent_flip {ds : List Dc} {d : Nat} {u : Tm} (hr : TSV ds d u.op u.a u.b u.nm u.ks = 0) : TSV ds (d + 1) 1 0 0 ⟨#[]⟩ [u] = -1 := by
  obtain ⟨hd, h2, h3, h4, h5, h6, h7, h8⟩ := TSV_right (ds := ds) (d := d) (op := u.op) (a := u.a) (b := u.b) (nm := u.nm) (ks := u.ks) (by omega)
  unfold TSV
  split
  · have hs : kS ds (d + 1) [u] = [TSV ds d u.op u.a u.b u.nm u.ks] := by
      show [SV1 ds u.op u.a u.b u.nm (kS ds d u.ks)] = _
      unfold TSV
      rw [if_pos ⟨hd, h2, h3⟩]
    unfold SV1
    rw [hs, hr]
    split
    · unfold SVb
      simp [orNo]
    · rfl
  · rfl
end Go.Proofs.YtfkanemjedndgaaDoor
