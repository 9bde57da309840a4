/- What the map of kinds holds at each number; the sort of a term, plainly. The conditions stand in each statement. -/
import Derived.Test.YtfkanemjedndgaaGreatDoorKi
import Derived.Test.YtfkanemjedndgaaGreatDoorEn
import Derived.Test.YtfkanemjedndgaaGreatDoorTk
import Derived.Test.YtfkanemjedndgaaGreatDoorTv
namespace Go.Proofs.YtfkanemjedndgaaGreatDoor
open Go.RowKit

def kUn (s : ByteArray) : Value := .iface 69 (.agg #[.string s, .int .i64 1])
def kBin (s : ByteArray) : Value := .iface 80 (.agg #[.string s, .int .i64 2])
def kCat (s : ByteArray) : Value := .iface 70 (.agg #[.string s, .int .i64 2])
def kCmp (s : ByteArray) : Value := .iface 71 (.agg #[.string s, .int .i64 2])
def kVec (s : ByteArray) : Value := .iface 72 (.agg #[.string s, .int .i64 0])
def kName (s : ByteArray) : Value := .iface 73 (.agg #[.string s, .int .i64 0])
def kCut (s : ByteArray) : Value := .iface 74 (.agg #[.string s, .int .i64 1])
def kIf (s : ByteArray) : Value := .iface 75 (.agg #[.string s, .int .i64 3])
def kBool (s : ByteArray) (n : Int) (f : Value) : Value := .iface 79 (.agg #[.string s, .int .i64 n, f])
/-- what lies at a number -/
def Holds (op : Int) (v : Value) : Prop :=
  (∃ s, (op = 1 ∨ op = 2) ∧ v = kUn s) ∨ (∃ s, (3 ≤ op ∧ op ≤ 13) ∧ v = kBin s) ∨ (∃ s, op = 14 ∧ v = kCat s) ∨ (∃ s, (15 ≤ op ∧ op ≤ 17) ∧ v = kCmp s) ∨
  (∃ s, op = 20 ∧ v = kVec s) ∨ (∃ s, op = 21 ∧ v = kName s) ∨ (∃ s, op = 22 ∧ v = kCut s) ∨ (∃ s, op = 23 ∧ v = kIf s) ∨ (∃ s n f, ((op = 24 ∧ n = 0) ∨ (op = 25 ∧ n = 1) ∨ ((op = 26 ∨ op = 27) ∧ n = 2)) ∧ v = kBool s n f)
def known (op : Int) : Bool := (decide (1 ≤ op) && decide (op ≤ 17)) || (decide (20 ≤ op) && decide (op ≤ 27))
theorem isMap0 : Maps.IsMap kDat0 := ⟨_, rfl⟩
theorem kind_at (op : Int) (h : known op = true) : Maps.has (kDat 11) (.int .i64 op) = true ∧ ∃ v, (kDat 11).atKey (.int .i64 op) (.held .nilIface) = .held v ∧ Holds op v := by
  have : op = 1 ∨ op = 2 ∨ op = 3 ∨ op = 4 ∨ op = 5 ∨ op = 6 ∨ op = 7 ∨ op = 8 ∨ op = 9 ∨ op = 10 ∨ op = 11 ∨ op = 12 ∨ op = 13 ∨ op = 14 ∨ op = 15 ∨ op = 16 ∨ op = 17 ∨ op = 20 ∨ op = 21 ∨ op = 22 ∨ op = 23 ∨ op = 24 ∨ op = 25 ∨ op = 26 ∨ op = 27 := by
    unfold known at h; simp at h; omega
  rcases this with rfl | rfl | rfl | rfl | rfl | rfl | rfl | rfl | rfl | rfl | rfl | rfl | rfl | rfl | rfl | rfl | rfl | rfl | rfl | rfl | rfl | rfl | rfl | rfl | rfl
  · exact ⟨by kernel_rfl, (kUn ⟨#[110, 111, 116]⟩), by kernel_rfl, .inl ⟨⟨#[110, 111, 116]⟩, by omega, rfl⟩⟩
  · exact ⟨by kernel_rfl, (kUn ⟨#[110, 101, 103]⟩), by kernel_rfl, .inl ⟨⟨#[110, 101, 103]⟩, by omega, rfl⟩⟩
  · exact ⟨by kernel_rfl, (kBin ⟨#[97, 110, 100]⟩), by kernel_rfl, .inr (.inl ⟨⟨#[97, 110, 100]⟩, by omega, rfl⟩)⟩
  · exact ⟨by kernel_rfl, (kBin ⟨#[111, 114]⟩), by kernel_rfl, .inr (.inl ⟨⟨#[111, 114]⟩, by omega, rfl⟩)⟩
  · exact ⟨by kernel_rfl, (kBin ⟨#[120, 111, 114]⟩), by kernel_rfl, .inr (.inl ⟨⟨#[120, 111, 114]⟩, by omega, rfl⟩)⟩
  · exact ⟨by kernel_rfl, (kBin ⟨#[97, 100, 100]⟩), by kernel_rfl, .inr (.inl ⟨⟨#[97, 100, 100]⟩, by omega, rfl⟩)⟩
  · exact ⟨by kernel_rfl, (kBin ⟨#[115, 117, 98]⟩), by kernel_rfl, .inr (.inl ⟨⟨#[115, 117, 98]⟩, by omega, rfl⟩)⟩
  · exact ⟨by kernel_rfl, (kBin ⟨#[109, 117, 108]⟩), by kernel_rfl, .inr (.inl ⟨⟨#[109, 117, 108]⟩, by omega, rfl⟩)⟩
  · exact ⟨by kernel_rfl, (kBin ⟨#[100, 105, 118]⟩), by kernel_rfl, .inr (.inl ⟨⟨#[100, 105, 118]⟩, by omega, rfl⟩)⟩
  · exact ⟨by kernel_rfl, (kBin ⟨#[114, 101, 109]⟩), by kernel_rfl, .inr (.inl ⟨⟨#[114, 101, 109]⟩, by omega, rfl⟩)⟩
  · exact ⟨by kernel_rfl, (kBin ⟨#[115, 104, 108]⟩), by kernel_rfl, .inr (.inl ⟨⟨#[115, 104, 108]⟩, by omega, rfl⟩)⟩
  · exact ⟨by kernel_rfl, (kBin ⟨#[115, 104, 114]⟩), by kernel_rfl, .inr (.inl ⟨⟨#[115, 104, 114]⟩, by omega, rfl⟩)⟩
  · exact ⟨by kernel_rfl, (kBin ⟨#[115, 97, 114]⟩), by kernel_rfl, .inr (.inl ⟨⟨#[115, 97, 114]⟩, by omega, rfl⟩)⟩
  · exact ⟨by kernel_rfl, (kCat ⟨#[99, 97, 116]⟩), by kernel_rfl, .inr (.inr (.inl ⟨⟨#[99, 97, 116]⟩, by omega, rfl⟩))⟩
  · exact ⟨by kernel_rfl, (kCmp ⟨#[115, 97, 109, 101]⟩), by kernel_rfl, .inr (.inr (.inr (.inl ⟨⟨#[115, 97, 109, 101]⟩, by omega, rfl⟩)))⟩
  · exact ⟨by kernel_rfl, (kCmp ⟨#[108, 101, 115, 115]⟩), by kernel_rfl, .inr (.inr (.inr (.inl ⟨⟨#[108, 101, 115, 115]⟩, by omega, rfl⟩)))⟩
  · exact ⟨by kernel_rfl, (kCmp ⟨#[117, 110, 100, 101, 114]⟩), by kernel_rfl, .inr (.inr (.inr (.inl ⟨⟨#[117, 110, 100, 101, 114]⟩, by omega, rfl⟩)))⟩
  · exact ⟨by kernel_rfl, (kVec ⟨#[]⟩), by kernel_rfl, .inr (.inr (.inr (.inr (.inl ⟨⟨#[]⟩, by omega, rfl⟩))))⟩
  · exact ⟨by kernel_rfl, (kName ⟨#[]⟩), by kernel_rfl, .inr (.inr (.inr (.inr (.inr (.inl ⟨⟨#[]⟩, by omega, rfl⟩)))))⟩
  · exact ⟨by kernel_rfl, (kCut ⟨#[99, 117, 116]⟩), by kernel_rfl, .inr (.inr (.inr (.inr (.inr (.inr (.inl ⟨⟨#[99, 117, 116]⟩, by omega, rfl⟩))))))⟩
  · exact ⟨by kernel_rfl, (kIf ⟨#[105, 102]⟩), by kernel_rfl, .inr (.inr (.inr (.inr (.inr (.inr (.inr (.inl ⟨⟨#[105, 102]⟩, by omega, rfl⟩)))))))⟩
  · exact ⟨by kernel_rfl, (kBool ⟨#[116, 114, 117, 101]⟩ 0 (.func (.func 35) #[] #[])), by kernel_rfl, .inr (.inr (.inr (.inr (.inr (.inr (.inr (.inr (⟨⟨#[116, 114, 117, 101]⟩, 0, (.func (.func 35) #[] #[]), by omega, rfl⟩))))))))⟩
  · exact ⟨by kernel_rfl, (kBool ⟨#[110, 111]⟩ 1 (.func (.func 36) #[] #[])), by kernel_rfl, .inr (.inr (.inr (.inr (.inr (.inr (.inr (.inr (⟨⟨#[110, 111]⟩, 1, (.func (.func 36) #[] #[]), by omega, rfl⟩))))))))⟩
  · exact ⟨by kernel_rfl, (kBool ⟨#[98, 111, 116, 104]⟩ 2 (.func (.func 37) #[] #[])), by kernel_rfl, .inr (.inr (.inr (.inr (.inr (.inr (.inr (.inr (⟨⟨#[98, 111, 116, 104]⟩, 2, (.func (.func 37) #[] #[]), by omega, rfl⟩))))))))⟩
  · exact ⟨by kernel_rfl, (kBool ⟨#[97, 110, 121]⟩ 2 (.func (.func 38) #[] #[])), by kernel_rfl, .inr (.inr (.inr (.inr (.inr (.inr (.inr (.inr (⟨⟨#[97, 110, 121]⟩, 2, (.func (.func 38) #[] #[]), by omega, rfl⟩))))))))⟩
theorem has_put (D : DataW Value) (k op : Int) (d : DataW Value) (h : op ≠ k) : Maps.has (D.put (.int .i64 k) d) (.int .i64 op) = Maps.has D (.int .i64 op) :=
  Maps.has_put_other (fun e => h (by injection e)) d
theorem kind_none (op : Int) (h : known op = false) : Maps.has (kDat 11) (.int .i64 op) = false := by
  have hn : ¬ ((1 ≤ op ∧ op ≤ 17) ∨ (20 ≤ op ∧ op ≤ 27)) := by unfold known at h; simp at h; omega
  have hk : ∀ j, j ≤ 11 → Maps.has (kDat j) (.int .i64 op) = Maps.has kDat0 (.int .i64 op) := by
    intro j hj
    induction j with
    | zero => rfl
    | succ j ih => unfold kDat; rw [has_put _ _ _ _ (by omega)]; exact ih (by omega)
  rw [hk 11 (Nat.le_refl _)]
  unfold kDat0
  rw [has_put _ _ _ _ (by omega), has_put _ _ _ _ (by omega), has_put _ _ _ _ (by omega), has_put _ _ _ _ (by omega), has_put _ _ _ _ (by omega), has_put _ _ _ _ (by omega), has_put _ _ _ _ (by omega), has_put _ _ _ _ (by omega), has_put _ _ _ _ (by omega), has_put _ _ _ _ (by omega), has_put _ _ _ _ (by omega), has_put _ _ _ _ (by omega), has_put _ _ _ _ (by omega), has_put _ _ _ _ (by omega)]
  rfl

/-- the look-up of a kind -/
theorem look_kind {w : World} {b : Nat} (h : KMap w b) (op : Int) (hop : (Lit.int .i64 op).wf = true) :
    ∃ v, (Instr.lookup 48 (.map (some b)) (.int .i64 op) true).run Tryz.prog w = .ok (.tuple #[v, .bool (known op)]) w ∧ (known op = true → Holds op v) := by
  obtain ⟨v, ps, hrun, hv⟩ := World.ownsMap.look_ok h keyed Tryz.underlying48 (z := .nilIface) (zd := .held .nilIface) (zp := []) (Tryz.zeroValue63 w) rfl (keyI op hop)
  cases hk : known op with
  | false => exact ⟨v, by rw [hrun, kind_none op hk], nofun⟩
  | true =>
    obtain ⟨h1, u, h2, h3⟩ := kind_at op hk
    rw [h2] at hv
    have : v = u := by
      simp only [heldR, Option.some.injEq, Prod.mk.injEq, DataW.held.injEq] at hv
      exact hv.1
    subst this
    exact ⟨v, by rw [hrun, h1], fun _ => h3⟩
theorem KMap.below {w w' : World} {b : Nat} (h : KMap w b) (hb : Below w.heap.size w w') : KMap w' b := World.ownsMap.kept h (row := none) ⟨hb.os, hb.tape, hb.output, hb.size, fun k hk _ => hb.block k hk⟩ (by simp)
theorem KMap.drew {w : World} {b : Nat} (h : KMap w b) : KMap w.drew b := h

/-! ### the sort of a term, of its terms' sorts -/
def arity (op : Int) : Int := if op = 20 ∨ op = 21 ∨ op = 24 then 0 else if op = 1 ∨ op = 2 ∨ op = 22 ∨ op = 25 then 1 else if op = 23 then 3 else if op = 26 ∨ op = 27 ∨ (3 ≤ op ∧ op ≤ 17) then 2 else -1
def plainB (op a b : Int) (nm : ByteArray) : Bool := (decide (op = 20 ∨ op = 22) || (decide (a = 0) && decide (b = 0))) && (decide (op = 21) || decide (nm = ⟨#[]⟩))
def orNo (c : Prop) [Decidable c] (x : Int) : Int := if c then x else -1
noncomputable def SVb (ds : List Dc) (op a b : Int) (nm : ByteArray) (ss : List Int) : Int :=
  if op = 1 ∨ op = 2 then orNo (0 < ss.getD 0 0) (ss.getD 0 0)
  else if 3 ≤ op ∧ op ≤ 13 then orNo (0 < ss.getD 0 0 ∧ ss.getD 0 0 = ss.getD 1 0) (ss.getD 0 0)
  else if op = 14 then orNo (0 < ss.getD 0 0 ∧ 0 < ss.getD 1 0 ∧ ss.getD 0 0 + ss.getD 1 0 ≤ 4) (ss.getD 0 0 + ss.getD 1 0)
  else if 15 ≤ op ∧ op ≤ 17 then orNo (0 < ss.getD 0 0 ∧ ss.getD 0 0 = ss.getD 1 0) 0
  else if op = 20 then orNo (vokB a b = true) a
  else if op = 21 then orNo (0 ≤ findV ds nm ds.length) (ds.getD (findV ds nm ds.length).toNat dz).2
  else if op = 22 then orNo (0 ≤ b ∧ b ≤ a ∧ a < ss.getD 0 0) (a - b + 1)
  else if op = 23 then orNo (ss.getD 0 0 = 0 ∧ ss.getD 1 0 = ss.getD 2 0) (ss.getD 1 0)
  else orNo (∀ s ∈ ss, s = 0) 0
noncomputable def SV1 (ds : List Dc) (op a b : Int) (nm : ByteArray) (ss : List Int) : Int :=
  if known op = true ∧ (ss.length : Int) = arity op ∧ plainB op a b nm = true ∧ ∀ s ∈ ss, s ≠ -1 then SVb ds op a b nm ss else -1
/-- the sorts of terms, of at most so many levels -/
noncomputable def kS (ds : List Dc) : Nat → List Tm → List Int
  | 0, _ => []
  | d + 1, ks => ks.map fun t => SV1 ds t.op t.a t.b t.nm (kS ds d t.ks)
theorem kS_len {ds : List Dc} {d : Nat} {w : World} {s : Value} {ks : List Tm} (h : SIn d w s ks) : (kS ds d ks).length = ks.length := by
  cases d with
  | zero => obtain ⟨rfl, _⟩ := h; rfl
  | succ d => simp [kS]
theorem kS_at {ds : List Dc} {d : Nat} {ks : List Tm} {k : Nat} (hk : k < ks.length) : (kS ds (d + 1) ks).getD k 0 = SV1 ds (ks.getD k tz).op (ks.getD k tz).a (ks.getD k tz).b (ks.getD k tz).nm (kS ds d (ks.getD k tz).ks) := by
  simp [kS, List.getD_eq_getElem?_getD, hk]
end Go.Proofs.YtfkanemjedndgaaGreatDoor
