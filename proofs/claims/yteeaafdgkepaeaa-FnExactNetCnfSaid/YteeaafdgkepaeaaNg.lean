/- Nets: what they read as; the statements' own copies, sizes and comparisons of them. The conditions stand in each statement. -/
import Derived.Test.YteeaafdgkepaeaaSg
import Derived.Deep.DeepCutAuto
import Derived.Lib.SmallJoins
import Derived.StillTailTactics
namespace Go.Proofs.Yteeaafdgkepaeaa
open Go.RowKit

/-- a gate: whether it is an exclusive or, and its two marks -/
abbrev Gt := Bool × Int × Int
def gz : Gt := (false, 0, 0)
def gv (g : Gt) : Value := .agg #[.bool g.1, .int .i64 g.2.1, .int .i64 g.2.2]
def gcell (gs : List Gt) (i j : Nat) : Value := match j with
  | 0 => .bool (gs.getD i gz).1
  | 1 => .int .i64 (gs.getD i gz).2.1
  | _ => .int .i64 (gs.getD i gz).2.2
def gzero (j : Nat) : Value := match j with
  | 0 => .bool false
  | _ => .int .i64 0
def Gates (w : World) (v : Value) (gs : List Gt) : Prop := ∃ a cap, v = .slice a gs.length cap ∧ RowS w a gs.length cap 3 (gcell gs)
theorem Gates.below {w w' : World} {v : Value} {l : List Gt} (h : Gates w v l) (hb : Below w.heap.size w w') : Gates w' v l := by
  obtain ⟨a, cap, rfl, h⟩ := h; exact ⟨a, cap, rfl, h.below hb⟩
theorem Gates.drew {w : World} {v : Value} {l : List Gt} (h : Gates w v l) : Gates w.drew v l := h
theorem Gates.len {w : World} {v : Value} {l : List Gt} (h : Gates w v l) : l.length ≤ 9223372036854775807 := by
  obtain ⟨a, cap, rfl, h1, h2, _⟩ := h; unfold maxLen at h2; omega
/-- the three cells of element k, at the address that the walk writes -/
theorem RowS.three {w : World} {a : Option Addr} {n cap : Nat} {gs : List Gt} (h : RowS w a n cap 3 (gcell gs)) {k : Nat} (hk : k < n) : ∃ b off, a = some ⟨b, off, none⟩ ∧ b < w.heap.size ∧
    w.cell? ⟨b, off + k * 3, none⟩ = some (.bool (gs.getD k gz).1) ∧ w.cell? ⟨b, off + k * 3 + 1, none⟩ = some (.int .i64 (gs.getD k gz).2.1) ∧ w.cell? ⟨b, off + k * 3 + 2, none⟩ = some (.int .i64 (gs.getD k gz).2.2) := by
  obtain ⟨_, _, h3⟩ := h
  rcases h3 with h3 | ⟨b, off, rfl, hl, hc⟩
  · omega
  · exact ⟨b, off, rfl, hl, hc k hk 0 (by omega), hc k hk 1 (by omega), hc k hk 2 (by omega)⟩

theorem infoGate : (Try.prog.info? 47).map (fun i => (i.zero, i.size, i.bytes)) = some (some (.agg #[.bool false, .int .i64 0, .int .i64 0]), 3, 24) := by kernel_rfl

set_option maxHeartbeats 400000 in
theorem toGate_any (x : Bool) (a b : Int) (w : World) :
    Calls Try.prog 65 #[.agg #[.bool x, .int .i64 a, .int .i64 b]] w fun e w' => e = .returned (.agg #[.bool x, .int .i64 a, .int .i64 b]) ∧ Below w.heap.size w w' := by
  go_enter Try.func65, Try.ntmps65
  go_wp2
  exact bodyPost_ret (v := .agg #[.bool x, .int .i64 a, .int .i64 b]) (by simp [results, Try.results65, go_sem]) rfl ⟨rfl, below_step (below_step (below_step (Below.refl _ _) _) _) _⟩

theorem szNet_any (i : Int) (v : Value) (gs : List Gt) (left : Int) (w : World) (h : Gates w v gs) (h0 : 0 ≤ left) (h1 : left ≤ 1048576) :
    Calls Try.prog 17 #[.agg #[.int .i64 i, v], .int .i64 left] w fun e w' => e = .returned (.int .i64 (if left < gs.length then -1 else left - gs.length)) ∧ Below w.heap.size w w' := by
  have hl := h.len
  obtain ⟨a, cap, rfl, _⟩ := h
  have C : Hid (∀ w', Calls Try.prog 46 #[.slice a gs.length cap, .int .i64 left] w' fun e w'' => e = .returned (.int .i64 (if left < gs.length then -1 else left - gs.length)) ∧ w' = w'') := by
    intro w'
    by_cases hc : left < (gs.length : Int)
    · rw [if_pos hc]
      go_enter Try.func46, Try.ntmps46
      go_wp2
      go_ret
      exact ⟨rfl, rfl⟩
    · rw [if_neg hc]
      go_enter Try.func46, Try.ntmps46
      go_wp2
      go_ret
      exact ⟨rfl, rfl⟩
  by_cases hc : left < (gs.length : Int)
  · rw [if_pos hc] at C ⊢
    go_enter Try.func17, Try.ntmps17
    go_wp2_with fail
    refine (C.out _).mono ?_; rintro e w1 ⟨rfl, rfl⟩
    go_wp2_with fail
    go_ret
    exact ⟨rfl, below_self_alloc _ _⟩
  · rw [if_neg hc] at C ⊢
    go_enter Try.func17, Try.ntmps17
    go_wp2_with fail
    refine (C.out _).mono ?_; rintro e w1 ⟨rfl, rfl⟩
    go_wp2_with fail
    go_ret
    exact ⟨rfl, below_self_alloc _ _⟩

def NewGates (gs : List Gt) (w : World) (e : Ending) (w' : World) : Prop := ∃ v, e = .returned v ∧ w'.ownsRow w.heap.size 47 3 v gs.length (fillS (gcell gs) gzero gs.length 3 gs.length) ∧ Below w.heap.size w w'

set_option maxRecDepth 100000 in
set_option maxHeartbeats 2000000 in
theorem toGateS_any (v : Value) (gs : List Gt) (w : World) (h : Gates w v gs) (hn : gs.length ≤ 1048576) :
    Calls Try.prog 47 #[v] w (NewGates gs w) := by
  obtain ⟨a, cap, rfl, hr⟩ := h
  obtain ⟨i0, hi, hz0, hz1, hz2⟩ := info_parts infoGate
  go_enter Try.func47, Try.ntmps47
  go_wp2_with (refine wpList_make_full _ rfl _ _ 37 rfl w.heap.size 47 i0 (.agg #[.bool false, .int .i64 0, .int .i64 0]) 3 Try.underlying37 hi hz0 hz1 .i64 .i64 gs.length gs.length gs.length (by rfl) (by rfl) rfl rfl (by rw [hz2]; omega) (by unfold maxLen; omega) (Nat.le_refl _) ?_; intro w1 hown hg)
  have hown0 : w1.ownsRow w.heap.size 47 3 (.slice (some ⟨w.heap.size, 0, none⟩) gs.length gs.length) gs.length (fillS (gcell gs) gzero gs.length 3 0) := by
    rw [← fillS_zero (gcell gs) gzero gs.length 3 #[.bool false, .int .i64 0, .int .i64 0] rfl (by omega) (by intro j hj; match j, hj with | 0, _ => rfl | 1, _ => rfl | 2, _ => rfl)]
    exact hown
  have B1 := below_grows (Below.refl w.heap.size w) hg (by simp)
  clear hown hg
  go_loopw [4] (fun i wr => ∃ k : Nat, k ≤ gs.length ∧ i = .int .i64 k ∧ wr.ownsRow w.heap.size 47 3 (.slice (some ⟨w.heap.size, 0, none⟩) gs.length gs.length) gs.length (fillS (gcell gs) gzero gs.length 3 k) ∧ Below w.heap.size w wr) (fun i _ => gs.length - (intOf i).toNat)
  case atStart => exact ⟨0, Nat.zero_le _, rfl, hown0, B1⟩
  case round =>
    obtain ⟨k, hk, rfl, hown, B⟩ := hrel
    clear hown0 B1
    by_cases hlt : k < gs.length
    · obtain ⟨b, off, rfl, r4, r5, r6, r7⟩ := (hr.below B).three hlt
      clear hr
      generalize hx : gs.getD k gz = x at *
      obtain ⟨x0, x1, x2⟩ := x
      go_wp2_with fail
      refine (toGate_any x0 x1 x2 _).mono ?_; rintro e w1 ⟨rfl, b1⟩
      obtain ⟨⟨c0, c1, c2⟩, ⟨f0, f1, f2⟩, q3⟩ := fillS_step3 (own_keep1 hown b1) hlt
      simp only [gcell, hx] at q3
      have B2 : Below w.heap.size w (((w1.setCell ⟨w.heap.size, k * 3, none⟩ (.bool x0)).setCell ⟨w.heap.size, k * 3 + 1, none⟩ (.int .i64 x1)).setCell ⟨w.heap.size, k * 3 + 2, none⟩ (.int .i64 x2)) :=
        (((B.trans (b1.mono B.size)).setCell (p := ⟨w.heap.size, k * 3, none⟩) (Nat.le_refl _) _).setCell (p := ⟨w.heap.size, k * 3 + 1, none⟩) (Nat.le_refl _) _).setCell (p := ⟨w.heap.size, k * 3 + 2, none⟩) (Nat.le_refl _) _
      have Q3 := Lib.hid q3
      simp only [gzero] at c0 c1 c2
      clear q3 hown hx
      go_wp2_with fail
      exact ⟨⟨k + 1, by omega, by go_num, Q3.out, B2⟩, by simp [intOf]; omega⟩
    · have hk2 : k = gs.length := by omega
      subst hk2
      go_wp2
      go_ret
      exact ⟨_, rfl, hown, B⟩
end Go.Proofs.Yteeaafdgkepaeaa
