/- The text of a term, plainly: what it is, and how long. No program. The conditions stand in each statement. -/
import Derived.Test.YtfkanemjedndgaaGreatDoorKt
import Derived.Test.YtfkanemjedndgaaGreatDoorTj
namespace Go.Proofs.YtfkanemjedndgaaGreatDoor
open Go.RowKit

def words : List ByteArray := [⟨#[]⟩, ⟨#[110, 111, 116]⟩, ⟨#[110, 101, 103]⟩, ⟨#[97, 110, 100]⟩, ⟨#[111, 114]⟩, ⟨#[120, 111, 114]⟩, ⟨#[97, 100, 100]⟩, ⟨#[115, 117, 98]⟩, ⟨#[109, 117, 108]⟩, ⟨#[100, 105, 118]⟩, ⟨#[114, 101, 109]⟩, ⟨#[115, 104, 108]⟩, ⟨#[115, 104, 114]⟩, ⟨#[115, 97, 114]⟩, ⟨#[99, 97, 116]⟩, ⟨#[115, 97, 109, 101]⟩, ⟨#[108, 101, 115, 115]⟩, ⟨#[117, 110, 100, 101, 114]⟩, ⟨#[]⟩, ⟨#[]⟩, ⟨#[]⟩, ⟨#[]⟩, ⟨#[99, 117, 116]⟩, ⟨#[105, 102]⟩, ⟨#[116, 114, 117, 101]⟩, ⟨#[110, 111]⟩, ⟨#[98, 111, 116, 104]⟩, ⟨#[97, 110, 121]⟩]
def wordB (op : Int) : ByteArray := words.getD op.toNat ⟨#[]⟩
theorem wordB_len (op : Int) : (wordB op).data.toList.length ≤ 5 := by
  have h : ∀ x ∈ words, x.data.toList.length ≤ 5 := by decide
  unfold wordB
  rw [List.getD_eq_getElem?_getD]
  rcases hx : words[op.toNat]? with _ | x
  · simp
  · exact h x (List.mem_of_getElem? hx)
/-- the text of a bit vector of a bits, after d of them -/
def vt (a : Nat) (b : Int) : Nat → List UInt8
  | 0 => [35]
  | d + 1 => vt a b d ++ [if b / two (a - 1 - d) % 2 = 1 then 49 else 48]
theorem vt_len (a : Nat) (b : Int) : ∀ d, (vt a b d).length = d + 1
  | 0 => rfl
  | d + 1 => by simp [vt, vt_len a b d]
def vtxL (a b : Int) : List UInt8 := if vokB a b = true then vt a.toNat b a.toNat else []
theorem vtxL_len (a b : Int) : (vtxL a b).length ≤ 5 := by
  unfold vtxL
  split
  · next h => rw [vt_len]; rcases vokB_elim h with h | h | h | h <;> omega
  · exact Nat.zero_le _
def cutL (op a b : Int) : List UInt8 := if op = 22 then 32 :: (Lib.decDigits a.toNat ++ 32 :: Lib.decDigits b.toNat) else []
def tx1 (op a b : Int) (nm : ByteArray) (ts : List (List UInt8)) : List UInt8 :=
  if op = 20 then vtxL a b else if op = 21 then nm.data.toList else if op = 24 then [116, 114, 117, 101]
  else 40 :: ((wordB op).data.toList ++ cutL op a b ++ Lib.joinTail [32] ts ++ [41])
/-- the texts of terms, of at most so many levels -/
def kT : Nat → List Tm → List (List UInt8)
  | 0, _ => []
  | d + 1, ks => ks.map fun t => tx1 t.op t.a t.b t.nm (kT d t.ks)
theorem kT_len {d : Nat} {w : World} {s : Value} {ks : List Tm} (h : SIn d w s ks) : (kT d ks).length = ks.length := by
  cases d with
  | zero => obtain ⟨rfl, _⟩ := h; rfl
  | succ d => simp [kT]
theorem kT_at {d : Nat} {ks : List Tm} {k : Nat} (hk : k < ks.length) : (kT (d + 1) ks)[k]? = some (tx1 (ks.getD k tz).op (ks.getD k tz).a (ks.getD k tz).b (ks.getD k tz).nm (kT d (ks.getD k tz).ks)) := by
  simp [kT, List.getD_eq_getElem?_getD, hk]

/-! ### what a right sort tells -/
theorem SV1_parts {ds : List Dc} {op a b : Int} {nm : ByteArray} {ss : List Int} (h : SV1 ds op a b nm ss ≠ -1) :
    known op = true ∧ (ss.length : Int) = arity op ∧ plainB op a b nm = true ∧ (∀ s ∈ ss, s ≠ -1) ∧ SVb ds op a b nm ss ≠ -1 := by
  unfold SV1 at h
  split at h
  · next c => exact ⟨c.1, c.2.1, c.2.2.1, c.2.2.2, h⟩
  · exact absurd rfl h
theorem kid_sorted {ds : List Dc} {d : Nat} {ks : List Tm} (h : ∀ s ∈ kS ds (d + 1) ks, s ≠ -1) {k : Nat} (hk : k < ks.length) : SV1 ds (ks.getD k tz).op (ks.getD k tz).a (ks.getD k tz).b (ks.getD k tz).nm (kS ds d (ks.getD k tz).ks) ≠ -1 := by
  rw [← kS_at hk]
  refine h _ ?_
  have hl : k < (kS ds (d + 1) ks).length := by simp [kS, hk]
  rw [List.getD_eq_getElem?_getD, List.getElem?_eq_getElem hl]
  exact List.getElem_mem _
theorem cut_bd {ds : List Dc} {a b : Int} {nm : ByteArray} {ss : List Int} (h : SVb ds 22 a b nm ss ≠ -1) (hs : SB ss) : 0 ≤ b ∧ b ≤ a ∧ a ≤ 3 := by
  have h0 := hs 0
  unfold SVb at h
  rw [if_neg (by omega), if_neg (by omega), if_neg (by omega), if_neg (by omega), if_neg (by omega), if_neg (by omega), if_pos rfl] at h
  unfold orNo at h
  split at h
  · next c => omega
  · exact absurd rfl h
theorem name_bd {ds : List Dc} (hd : ∀ i, i < ds.length → (ds.getD i dz).1.size ≤ 4) {a b : Int} {nm : ByteArray} {ss : List Int} (h : SVb ds 21 a b nm ss ≠ -1) : nm.size ≤ 4 := by
  unfold SVb at h
  rw [if_neg (by omega), if_neg (by omega), if_neg (by omega), if_neg (by omega), if_neg (by omega), if_pos rfl] at h
  unfold orNo at h
  split at h
  · next c =>
    rcases findV_spec ds nm ds.length with ⟨h1, _⟩ | ⟨_, _, j, hj⟩
    · omega
    · obtain ⟨h1, h2⟩ : j < ds.length ∧ (ds.getD j dz).1 = nm := by
        first | exact ⟨hj.1, hj.2⟩ | exact ⟨hj.1, hj.2.1⟩ | exact ⟨hj.1, hj.2.2⟩
      rw [← h2]; exact hd j h1
  · exact absurd rfl h
theorem dig_len {n : Nat} (h : n ≤ 9) : (Lib.decDigits n).length = 1 := by
  rw [Lib.decDigits]
  first | (rw [if_pos h]; rfl) | (rw [if_pos (by omega)]; rfl) | (split <;> first | rfl | omega) | (simp; omega)
theorem tail_len (f : Nat → Nat) (ts : List (List UInt8)) (h : ∀ k t, ts[k]? = some t → t.length ≤ 14 * f k) : (Lib.joinTail [32] ts).length ≤ ts.length + 14 * sumTo f ts.length := by
  have : ∀ n, n ≤ ts.length → (Lib.joinTail [32] (ts.take n)).length ≤ n + 14 * sumTo f n := by
    intro n
    induction n with
    | zero => intro _; simp [Lib.joinTail, sumTo]
    | succ n ih =>
      intro hn
      have hx : ts[n]? = some ts[n] := List.getElem?_eq_getElem (by omega)
      rw [Lib.joinTail_take_succ _ _ _ _ hx]
      have h2 := h n _ hx
      have h3 := ih (by omega)
      simp only [List.length_append, List.length_cons, List.length_nil, sumTo]
      omega
  have h2 := this ts.length (Nat.le_refl _)
  rwa [List.take_length] at h2
theorem arity_le (op : Int) : arity op ≤ 3 := by unfold arity; split
                                                 · omega
                                                 · split
                                                   · omega
                                                   · split
                                                     · omega
                                                     · split <;> omega
theorem tx1_len {ds : List Dc} (hd : ∀ i, i < ds.length → (ds.getD i dz).1.size ≤ 4) {op a b : Int} {nm : ByteArray} {ss : List Int} {ts : List (List UInt8)} (hs : SB ss) (hl : ss.length = ts.length) (h : SV1 ds op a b nm ss ≠ -1)
    (f : Nat → Nat) (hf : ∀ k t, ts[k]? = some t → t.length ≤ 14 * f k) : (tx1 op a b nm ts).length ≤ 14 * (1 + sumTo f ts.length) := by
  obtain ⟨_, h2, _, _, h5⟩ := SV1_parts h
  have h3 := arity_le op
  have ht := tail_len f ts hf
  have hwl := wordB_len op
  have hc : (cutL op a b).length ≤ 4 := by
    unfold cutL
    split
    · next e =>
      subst e
      obtain ⟨b0, b1, b2⟩ := cut_bd h5 hs
      have e1 := dig_len (n := a.toNat) (by omega)
      have e2 := dig_len (n := b.toNat) (by omega)
      simp only [List.length_cons, List.length_append]
      omega
    · exact Nat.zero_le _
  unfold tx1
  split
  · have := vtxL_len a b; omega
  split
  · next e =>
    subst e
    have := name_bd hd h5
    have e3 : nm.data.toList.length = nm.size := Array.length_toList
    omega
  split
  · show 4 ≤ _; omega
  · rw [List.length_cons, List.length_append, List.length_append, List.length_append]
    show _ + _ + _ + 1 + 1 ≤ _
    omega
/-- how long the text of a right term is -/
theorem tx_len {ds : List Dc} (hw : DW ds) (hd : ∀ i, i < ds.length → (ds.getD i dz).1.size ≤ 4) : ∀ (d : Nat) (w : World) (s : Value) (ks : List Tm), SIn d w s ks → ∀ (op a b : Int) (nm : ByteArray), SV1 ds op a b nm (kS ds d ks) ≠ -1 → (tx1 op a b nm (kT d ks)).length ≤ 14 * NN d ks
  | 0, w, s, ks, hi, op, a, b, nm, h => by
    have hl : (kS ds 0 ks).length = (kT 0 ks).length := rfl
    have := tx1_len hd (kS_bd hw 0 ks) hl h (fun _ => 0) (fun k t hk => by rw [show kT 0 ks = [] from rfl, List.getElem?_nil] at hk; cases hk)
    exact this
  | d + 1, w, s, ks, hi, op, a, b, nm, h => by
    have hl : (kS ds (d + 1) ks).length = (kT (d + 1) ks).length := by simp [kS, kT]
    obtain ⟨_, _, _, hk0, _⟩ := SV1_parts h
    have hkl : (kT (d + 1) ks).length = ks.length := by simp [kT]
    obtain ⟨_, _, S, _, _, _, hS⟩ := hi
    have := tx1_len hd (kS_bd hw (d + 1) ks) hl h (fun i => NN d (ks.getD i tz).ks) (fun k t hk => by
      have hlt : k < ks.length := by rw [← hkl]; exact (List.getElem?_eq_some_iff.1 hk).1
      rw [kT_at hlt] at hk
      cases hk
      exact tx_len hw hd d w (S k) _ (hS k hlt) _ _ _ _ (kid_sorted hk0 hlt))
    rw [hkl] at this
    exact this
end Go.Proofs.YtfkanemjedndgaaGreatDoor
