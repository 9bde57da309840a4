/- kinds(): the map of the kinds of terms. The conditions stand in each statement. -/
import Derived.Test.YtfkanemjedndgaaGreatDoorGa
import Derived.Test.YtfkanemjedndgaaGreatDoorSa
import Derived.Maps.OwnSet
import Derived.Maps.Views
import Derived.Handy
namespace Go.Proofs.YtfkanemjedndgaaGreatDoor
open Go.RowKit

/-- how an element of the map reads: as itself -/
def heldR (v : Value) : Option (DataW Value × List MemPlace) := some (.held v, [])
theorem wpList_insert_own {H : Type} {P : Program} (w : World) {ops : Array Oper} {rest : List Oper} {o : Oper} {a : Act} {Q : Exit → Act → World → Prop}
    (hg : o.guard = none) (m x v : Operand) (t : TypeId) (hop : o.op = Op.insert t m x v)
    (k e : TypeId) (K : Maps.Keyed P k) (ht : P.underlying t = some (.map k e)) (R : Value → Option (DataW H × List MemPlace)) (b n : Nat) (D : DataW H)
    (hm : a.eval m = .map (some b)) (hown : w.ownsMap P k R b n D) (hn : n < maxLen) (key val : Value) (kl : Lit) (hx : a.eval x = key) (hv : a.eval v = val) (hkey : keyOf P k key = some kl)
    (d : DataW H) (ps : List MemPlace) (hval : R val = some (d, ps))
    (hK : ∀ w', w'.ownsMap P k R b (n + 1) (D.put kl d) → w.grownBy w' (some b) → wpList P ops Q rest (a.put o.dst undef) w') :
    wpList P ops Q (o :: rest) a w := by
  refine wpList_plain hg fun K' hK' => ?_
  obtain ⟨w', hrun, r1, r2⟩ := hown.update K ht hn hkey hval
  unfold Oper.wp
  simp [execOp, hop, hm, hx, hv, hrun, Result.andThen]
  exact hK' _ _ (hK w' r1 r2)
theorem keyI (n : Int) (h : (Lit.int .i64 n).wf = true) : keyOf Tryz.prog 3 (.int .i64 n) = some (.int .i64 n) := Maps.keyOf_int_mk Tryz.underlying3 h
/-- the map's first fourteen entries -/
def kDat0 : DataW Value := (((((((((((((((.map [] : DataW Value)).put (.int .i64 1) (.held (.iface 69 (.agg #[.string ⟨#[110, 111, 116]⟩, .int .i64 1])))).put (.int .i64 2) (.held (.iface 69 (.agg #[.string ⟨#[110, 101, 103]⟩, .int .i64 1])))).put (.int .i64 14) (.held (.iface 70 (.agg #[.string ⟨#[99, 97, 116]⟩, .int .i64 2])))).put (.int .i64 15) (.held (.iface 71 (.agg #[.string ⟨#[115, 97, 109, 101]⟩, .int .i64 2])))).put (.int .i64 16) (.held (.iface 71 (.agg #[.string ⟨#[108, 101, 115, 115]⟩, .int .i64 2])))).put (.int .i64 17) (.held (.iface 71 (.agg #[.string ⟨#[117, 110, 100, 101, 114]⟩, .int .i64 2])))).put (.int .i64 20) (.held (.iface 72 (.agg #[.string ⟨#[]⟩, .int .i64 0])))).put (.int .i64 21) (.held (.iface 73 (.agg #[.string ⟨#[]⟩, .int .i64 0])))).put (.int .i64 22) (.held (.iface 74 (.agg #[.string ⟨#[99, 117, 116]⟩, .int .i64 1])))).put (.int .i64 23) (.held (.iface 75 (.agg #[.string ⟨#[105, 102]⟩, .int .i64 3])))).put (.int .i64 24) (.held (.iface 79 (.agg #[.string ⟨#[116, 114, 117, 101]⟩, .int .i64 0, .func (.func 35) #[] #[]])))).put (.int .i64 25) (.held (.iface 79 (.agg #[.string ⟨#[110, 111]⟩, .int .i64 1, .func (.func 36) #[] #[]])))).put (.int .i64 26) (.held (.iface 79 (.agg #[.string ⟨#[98, 111, 116, 104]⟩, .int .i64 2, .func (.func 37) #[] #[]])))).put (.int .i64 27) (.held (.iface 79 (.agg #[.string ⟨#[97, 110, 121]⟩, .int .i64 2, .func (.func 38) #[] #[]])))
def wd : Nat → ByteArray
  | 0 => ⟨#[97, 110, 100]⟩
  | 1 => ⟨#[111, 114]⟩
  | 2 => ⟨#[120, 111, 114]⟩
  | 3 => ⟨#[97, 100, 100]⟩
  | 4 => ⟨#[115, 117, 98]⟩
  | 5 => ⟨#[109, 117, 108]⟩
  | 6 => ⟨#[100, 105, 118]⟩
  | 7 => ⟨#[114, 101, 109]⟩
  | 8 => ⟨#[115, 104, 108]⟩
  | 9 => ⟨#[115, 104, 114]⟩
  | 10 => ⟨#[115, 97, 114]⟩
  | _ => ⟨#[]⟩
/-- with the words of operations of two, up to j -/
def kDat : Nat → DataW Value
  | 0 => kDat0
  | j + 1 => (kDat j).put (.int .i64 ((3 + j : Nat) : Int)) (.held (.iface 80 (.agg #[.string (wd j), .int .i64 2])))
theorem word_at (j : Nat) (h : j < 11) : (#[Value.string ⟨#[97, 110, 100]⟩, Value.string ⟨#[111, 114]⟩, Value.string ⟨#[120, 111, 114]⟩, Value.string ⟨#[97, 100, 100]⟩, Value.string ⟨#[115, 117, 98]⟩, Value.string ⟨#[109, 117, 108]⟩, Value.string ⟨#[100, 105, 118]⟩, Value.string ⟨#[114, 101, 109]⟩, Value.string ⟨#[115, 104, 108]⟩, Value.string ⟨#[115, 104, 114]⟩, Value.string ⟨#[115, 97, 114]⟩] : Array Value)[j]? = some (.string (wd j)) := by
  have : j = 0 ∨ j = 1 ∨ j = 2 ∨ j = 3 ∨ j = 4 ∨ j = 5 ∨ j = 6 ∨ j = 7 ∨ j = 8 ∨ j = 9 ∨ j = 10 := by omega
  rcases this with rfl | rfl | rfl | rfl | rfl | rfl | rfl | rfl | rfl | rfl | rfl <;> rfl
def KMap (w : World) (b : Nat) : Prop := w.ownsMap Tryz.prog 3 heldR b 25 (kDat 11)
theorem keyed : Maps.Keyed Tryz.prog 3 := Maps.int_keyed Tryz.underlying3

set_option maxRecDepth 100000 in
set_option maxHeartbeats 8000000 in
theorem kinds_any (w : World) : Calls Tryz.prog 20 #[] w fun e w' => ∃ b, e = .returned (.map (some b)) ∧ KMap w' b ∧ Below w.heap.size w w' := by
  have hmm := @run_makeMap Tryz.prog
  go_enter Tryz.func20, Tryz.ntmps20
  have own0 : (w.alloc (.map #[] 0)).ownsMap Tryz.prog 3 heldR w.heap.size 0 (.map []) := World.ownsMap_made w _ _ _
  have B0 := below_self_alloc w (.map #[] 0)
  go_wp2_with (refine wpList_insert_own _ rfl _ _ _ 48 rfl 3 63 keyed Tryz.underlying48 heldR w.heap.size 0 _ rfl own0 (by decide) _ _ (.int .i64 1) rfl rfl (keyI 1 (by decide)) _ [] rfl ?_; intro w1 own1 hg; refine Hid.out ?_)
  refine Lib.hid ?_
  have B1 := below_grows B0 hg (fun k e => by cases e; exact Nat.le_refl _)
  clear own0 hg B0
  go_wp2_with (refine wpList_insert_own _ rfl _ _ _ 48 rfl 3 63 keyed Tryz.underlying48 heldR w.heap.size 1 _ rfl own1 (by decide) _ _ (.int .i64 2) rfl rfl (keyI 2 (by decide)) _ [] rfl ?_; intro w2 own2 hg; refine Hid.out ?_)
  refine Lib.hid ?_
  have B2 := below_grows B1 hg (fun k e => by cases e; exact Nat.le_refl _)
  clear own1 hg B1
  go_wp2_with (refine wpList_insert_own _ rfl _ _ _ 48 rfl 3 63 keyed Tryz.underlying48 heldR w.heap.size 2 _ rfl own2 (by decide) _ _ (.int .i64 14) rfl rfl (keyI 14 (by decide)) _ [] rfl ?_; intro w3 own3 hg; refine Hid.out ?_)
  refine Lib.hid ?_
  have B3 := below_grows B2 hg (fun k e => by cases e; exact Nat.le_refl _)
  clear own2 hg B2
  go_wp2_with (refine wpList_insert_own _ rfl _ _ _ 48 rfl 3 63 keyed Tryz.underlying48 heldR w.heap.size 3 _ rfl own3 (by decide) _ _ (.int .i64 15) rfl rfl (keyI 15 (by decide)) _ [] rfl ?_; intro w4 own4 hg; refine Hid.out ?_)
  refine Lib.hid ?_
  have B4 := below_grows B3 hg (fun k e => by cases e; exact Nat.le_refl _)
  clear own3 hg B3
  go_wp2_with (refine wpList_insert_own _ rfl _ _ _ 48 rfl 3 63 keyed Tryz.underlying48 heldR w.heap.size 4 _ rfl own4 (by decide) _ _ (.int .i64 16) rfl rfl (keyI 16 (by decide)) _ [] rfl ?_; intro w5 own5 hg; refine Hid.out ?_)
  refine Lib.hid ?_
  have B5 := below_grows B4 hg (fun k e => by cases e; exact Nat.le_refl _)
  clear own4 hg B4
  go_wp2_with (refine wpList_insert_own _ rfl _ _ _ 48 rfl 3 63 keyed Tryz.underlying48 heldR w.heap.size 5 _ rfl own5 (by decide) _ _ (.int .i64 17) rfl rfl (keyI 17 (by decide)) _ [] rfl ?_; intro w6 own6 hg; refine Hid.out ?_)
  refine Lib.hid ?_
  have B6 := below_grows B5 hg (fun k e => by cases e; exact Nat.le_refl _)
  clear own5 hg B5
  go_wp2_with (refine wpList_insert_own _ rfl _ _ _ 48 rfl 3 63 keyed Tryz.underlying48 heldR w.heap.size 6 _ rfl own6 (by decide) _ _ (.int .i64 20) rfl rfl (keyI 20 (by decide)) _ [] rfl ?_; intro w7 own7 hg; refine Hid.out ?_)
  refine Lib.hid ?_
  have B7 := below_grows B6 hg (fun k e => by cases e; exact Nat.le_refl _)
  clear own6 hg B6
  go_wp2_with (refine wpList_insert_own _ rfl _ _ _ 48 rfl 3 63 keyed Tryz.underlying48 heldR w.heap.size 7 _ rfl own7 (by decide) _ _ (.int .i64 21) rfl rfl (keyI 21 (by decide)) _ [] rfl ?_; intro w8 own8 hg; refine Hid.out ?_)
  refine Lib.hid ?_
  have B8 := below_grows B7 hg (fun k e => by cases e; exact Nat.le_refl _)
  clear own7 hg B7
  go_wp2_with (refine wpList_insert_own _ rfl _ _ _ 48 rfl 3 63 keyed Tryz.underlying48 heldR w.heap.size 8 _ rfl own8 (by decide) _ _ (.int .i64 22) rfl rfl (keyI 22 (by decide)) _ [] rfl ?_; intro w9 own9 hg; refine Hid.out ?_)
  refine Lib.hid ?_
  have B9 := below_grows B8 hg (fun k e => by cases e; exact Nat.le_refl _)
  clear own8 hg B8
  go_wp2_with (refine wpList_insert_own _ rfl _ _ _ 48 rfl 3 63 keyed Tryz.underlying48 heldR w.heap.size 9 _ rfl own9 (by decide) _ _ (.int .i64 23) rfl rfl (keyI 23 (by decide)) _ [] rfl ?_; intro w10 own10 hg; refine Hid.out ?_)
  refine Lib.hid ?_
  have B10 := below_grows B9 hg (fun k e => by cases e; exact Nat.le_refl _)
  clear own9 hg B9
  go_wp2_with (refine wpList_insert_own _ rfl _ _ _ 48 rfl 3 63 keyed Tryz.underlying48 heldR w.heap.size 10 _ rfl own10 (by decide) _ _ (.int .i64 24) rfl rfl (keyI 24 (by decide)) _ [] rfl ?_; intro w11 own11 hg; refine Hid.out ?_)
  refine Lib.hid ?_
  have B11 := below_grows B10 hg (fun k e => by cases e; exact Nat.le_refl _)
  clear own10 hg B10
  go_wp2_with (refine wpList_insert_own _ rfl _ _ _ 48 rfl 3 63 keyed Tryz.underlying48 heldR w.heap.size 11 _ rfl own11 (by decide) _ _ (.int .i64 25) rfl rfl (keyI 25 (by decide)) _ [] rfl ?_; intro w12 own12 hg; refine Hid.out ?_)
  refine Lib.hid ?_
  have B12 := below_grows B11 hg (fun k e => by cases e; exact Nat.le_refl _)
  clear own11 hg B11
  go_wp2_with (refine wpList_insert_own _ rfl _ _ _ 48 rfl 3 63 keyed Tryz.underlying48 heldR w.heap.size 12 _ rfl own12 (by decide) _ _ (.int .i64 26) rfl rfl (keyI 26 (by decide)) _ [] rfl ?_; intro w13 own13 hg; refine Hid.out ?_)
  refine Lib.hid ?_
  have B13 := below_grows B12 hg (fun k e => by cases e; exact Nat.le_refl _)
  clear own12 hg B12
  go_wp2_with (refine wpList_insert_own _ rfl _ _ _ 48 rfl 3 63 keyed Tryz.underlying48 heldR w.heap.size 13 _ rfl own13 (by decide) _ _ (.int .i64 27) rfl rfl (keyI 27 (by decide)) _ [] rfl ?_; intro w14 own14 hg; refine Hid.out ?_)
  refine Lib.hid ?_
  have B14 := below_grows B13 hg (fun k e => by cases e; exact Nat.le_refl _)
  clear own13 hg B13
  have EQ0 : Hid (w14.ownsMap Tryz.prog 3 heldR w.heap.size 14 kDat0) := own14
  clear own14
  have B15 := below_step B14 (.cells #[Value.string ⟨#[97, 110, 100]⟩, Value.string ⟨#[111, 114]⟩, Value.string ⟨#[120, 111, 114]⟩, Value.string ⟨#[97, 100, 100]⟩, Value.string ⟨#[115, 117, 98]⟩, Value.string ⟨#[109, 117, 108]⟩, Value.string ⟨#[100, 105, 118]⟩, Value.string ⟨#[114, 101, 109]⟩, Value.string ⟨#[115, 104, 108]⟩, Value.string ⟨#[115, 104, 114]⟩, Value.string ⟨#[115, 97, 114]⟩] 9)
  have own15 : Hid ((w14.alloc (.cells #[Value.string ⟨#[97, 110, 100]⟩, Value.string ⟨#[111, 114]⟩, Value.string ⟨#[120, 111, 114]⟩, Value.string ⟨#[97, 100, 100]⟩, Value.string ⟨#[115, 117, 98]⟩, Value.string ⟨#[109, 117, 108]⟩, Value.string ⟨#[100, 105, 118]⟩, Value.string ⟨#[114, 101, 109]⟩, Value.string ⟨#[115, 104, 108]⟩, Value.string ⟨#[115, 104, 114]⟩, Value.string ⟨#[115, 97, 114]⟩] 9)).ownsMap Tryz.prog 3 heldR w.heap.size 14 kDat0) := EQ0.out.alloc _
  have hwd : Hid ((w14.alloc (.cells #[Value.string ⟨#[97, 110, 100]⟩, Value.string ⟨#[111, 114]⟩, Value.string ⟨#[120, 111, 114]⟩, Value.string ⟨#[97, 100, 100]⟩, Value.string ⟨#[115, 117, 98]⟩, Value.string ⟨#[109, 117, 108]⟩, Value.string ⟨#[100, 105, 118]⟩, Value.string ⟨#[114, 101, 109]⟩, Value.string ⟨#[115, 104, 108]⟩, Value.string ⟨#[115, 104, 114]⟩, Value.string ⟨#[115, 97, 114]⟩] 9)).heap[w14.heap.size]? = some (.cells #[Value.string ⟨#[97, 110, 100]⟩, Value.string ⟨#[111, 114]⟩, Value.string ⟨#[120, 111, 114]⟩, Value.string ⟨#[97, 100, 100]⟩, Value.string ⟨#[115, 117, 98]⟩, Value.string ⟨#[109, 117, 108]⟩, Value.string ⟨#[100, 105, 118]⟩, Value.string ⟨#[114, 101, 109]⟩, Value.string ⟨#[115, 104, 108]⟩, Value.string ⟨#[115, 104, 114]⟩, Value.string ⟨#[115, 97, 114]⟩] 9 (0, 0))) := heap_alloc_new w14 _
  have hlt : w.heap.size < w14.heap.size := EQ0.out.lt
  clear EQ0 B14
  go_wp2_with fail
  go_loopw [48] (fun i wr => ∃ k : Nat, i = .int .i64 k ∧ k ≤ 11 ∧ Hid (wr.ownsMap Tryz.prog 3 heldR w.heap.size (14 + k) (kDat k)) ∧ Hid (wr.heap[w14.heap.size]? = some (.cells #[Value.string ⟨#[97, 110, 100]⟩, Value.string ⟨#[111, 114]⟩, Value.string ⟨#[120, 111, 114]⟩, Value.string ⟨#[97, 100, 100]⟩, Value.string ⟨#[115, 117, 98]⟩, Value.string ⟨#[109, 117, 108]⟩, Value.string ⟨#[100, 105, 118]⟩, Value.string ⟨#[114, 101, 109]⟩, Value.string ⟨#[115, 104, 108]⟩, Value.string ⟨#[115, 104, 114]⟩, Value.string ⟨#[115, 97, 114]⟩] 9 (0, 0))) ∧ Below w.heap.size w wr) (fun i _ => 11 - (intOf i).toNat)
  case atStart => exact ⟨0, rfl, by omega, own15, hwd, B15⟩
  case round =>
    clear own15 hwd B15
    obtain ⟨k, rfl, hk, hown, hwd, B⟩ := hrel
    by_cases hk1 : k < 11
    · have r6 : wr.cell? ⟨w14.heap.size, k, none⟩ = some (.string (wd k)) := by
        unfold World.cell?; rw [hwd.out]; exact word_at k hk1
      have hk2 : (k : Int) < 11 := by omega
      have hkk : (3 : Int) + (k : Int) = ((3 + k : Nat) : Int) := by omega
      have HKK := Lib.hid hkk
      clear hkk
      go_wp2_with (at_mapUpdate; refine wpList_mapUpdate_own _ rfl _ _ _ 48 rfl 3 63 keyed Tryz.underlying48 heldR w.heap.size (14 + k) _ rfl hown.out (by unfold maxLen; omega) _ _ (.int .i64 (3 + (k : Int))) rfl rfl (keyI _ (by simp [Lit.wf, IntKind.min, IntKind.max, IntKind.signed, IntKind.bits]; omega)) _ [] rfl ?_; intro w2 own2 hg; refine Hid.out ?_)
      refine Lib.hid ?_
      have B2 := below_grows B hg (fun k e => by cases e; exact Nat.le_refl _)
      have own3 : Hid (w2.ownsMap Tryz.prog 3 heldR w.heap.size (14 + (k + 1)) (kDat (k + 1))) := by
        show World.ownsMap _ _ _ _ _ _ _
        unfold kDat
        rw [← HKK.out]; exact own2
      have hwd2 : Hid (w2.heap[w14.heap.size]? = some (.cells #[Value.string ⟨#[97, 110, 100]⟩, Value.string ⟨#[111, 114]⟩, Value.string ⟨#[120, 111, 114]⟩, Value.string ⟨#[97, 100, 100]⟩, Value.string ⟨#[115, 117, 98]⟩, Value.string ⟨#[109, 117, 108]⟩, Value.string ⟨#[100, 105, 118]⟩, Value.string ⟨#[114, 101, 109]⟩, Value.string ⟨#[115, 104, 108]⟩, Value.string ⟨#[115, 104, 114]⟩, Value.string ⟨#[115, 97, 114]⟩] 9 (0, 0))) := (hg.block _ (Array.getElem?_eq_some_iff.1 hwd.out).1 (fun e => by injection e with e; omega)).trans hwd.out
      clear hown hwd own2 hg B
      go_wp2_with fail
      exact ⟨⟨k + 1, by go_num, by omega, own3, hwd2, B2⟩, by simp [intOf]; omega⟩
    · obtain rfl : k = 11 := by omega
      clear hwd
      go_wp2_with fail
      go_ret
      exact ⟨_, rfl, hown.out, B⟩
end Go.Proofs.YtfkanemjedndgaaGreatDoor
