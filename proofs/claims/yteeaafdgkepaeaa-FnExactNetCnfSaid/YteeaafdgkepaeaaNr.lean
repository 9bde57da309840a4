/- Circuits that are read: the copy of the gates, how many nodes there are ahead. The conditions stand in each statement. -/
import Derived.Test.YteeaafdgkepaeaaNq
import Derived.Test.YteeaafdgkepaeaaNk
import Derived.Deep.AppendLies
namespace Go.Proofs.Yteeaafdgkepaeaa
open Go.RowKit

def gflat : List Gt → List Value
  | [] => []
  | g :: gs => .bool g.1 :: .int .i64 g.2.1 :: .int .i64 g.2.2 :: gflat gs
theorem gflat_len : ∀ gs, (gflat gs).length = gs.length * 3
  | [] => rfl
  | g :: gs => by simp only [gflat, List.length_cons, gflat_len gs]; omega
theorem gflat_get : ∀ (gs : List Gt) (i j : Nat), i < gs.length → j < 3 → (gflat gs)[i * 3 + j]? = some (gcell gs i j)
  | [], _, _, h, _ => absurd h (Nat.not_lt_zero _)
  | g :: gs, 0, 0, _, _ => rfl
  | g :: gs, 0, 1, _, _ => rfl
  | g :: gs, 0, 2, _, _ => rfl
  | g :: gs, i + 1, j, h, hj => by
    have := gflat_get gs i j (by simpa using h) hj
    rw [show (i + 1) * 3 + j = (i * 3 + j) + 1 + 1 + 1 by omega]
    simp only [gflat, List.getElem?_cons_succ]
    rw [this]
    match j, hj with
    | 0, _ => simp [gcell]
    | 1, _ => simp [gcell]
    | 2, _ => simp [gcell]
theorem gflat_fill (gs : List Gt) : gflat gs = fillS (gcell gs) gzero gs.length 3 gs.length := by
  apply List.ext_getElem?
  intro q
  by_cases hq : q < gs.length * 3
  · rw [fillS_get _ _ _ _ _ hq, if_pos hq]
    have := gflat_get gs (q / 3) (q % 3) (by omega) (by omega)
    rw [show q / 3 * 3 + q % 3 = q by omega] at this
    exact this
  · rw [List.getElem?_eq_none (by rw [gflat_len]; omega), List.getElem?_eq_none (by rw [fillS_len]; omega)]
theorem gflat_one : ∀ (gs : List Gt), ∀ u ∈ gflat gs, u.oneCell' = true
  | [], _, h => absurd h (by simp [gflat])
  | g :: gs, u, h => by
    simp only [gflat, List.mem_cons] at h
    rcases h with rfl | rfl | rfl | h
    · rfl
    · rfl
    · rfl
    · exact gflat_one gs u h
theorem RowS.news3 {w : World} {b off cap : Nat} {gs : List Gt} (h : RowS w (some ⟨b, off, none⟩) gs.length cap 3 (gcell gs)) : ∀ j u, (gflat gs)[j]? = some u → w.cell? ((⟨b, off, none⟩ : Addr).add j) = some u := by
  intro j u hj
  have hlt : j < gs.length * 3 := by have := (List.getElem?_eq_some_iff.1 hj).1; rwa [gflat_len] at this
  obtain ⟨_, _, h3⟩ := h
  rcases h3 with h3 | ⟨b', off', e, hl, hc⟩
  · omega
  · simp only [Option.some.injEq, Addr.mk.injEq, and_true] at e
    obtain ⟨rfl, rfl⟩ := e
    have h1 := hc (j / 3) (by omega) (j % 3) (by omega)
    have h2 := gflat_get gs (j / 3) (j % 3) (by omega) (by omega)
    rw [show j / 3 * 3 + j % 3 = j by omega] at h2
    rw [h2] at hj
    cases hj
    rw [show off + j / 3 * 3 + j % 3 = off + j by omega] at h1
    have ea : (Addr.mk b off none).add j = ⟨b, off + j, none⟩ := by simp only [Addr.add]; split <;> simp_all
    rw [ea]; exact h1

/-- what slices.Clone gives: the gates, in a row of its own, or nil -/
def Cloned (gs : List Gt) (w : World) (e : Ending) (w' : World) : Prop := ∃ v, e = .returned v ∧ Gates w' v gs ∧ Below w.heap.size w w'

/-- nil, or a row that begins a block -/
def NilOrB (v : Value) : Prop := v = .slice none 0 0 ∨ ∃ b len cap, v = .slice (some ⟨b, 0, none⟩) len cap
theorem nilOrB_own {w : World} {base size n : Nat} {e : TypeId} {v : Value} {xs : List Value} (h : w.ownsRow base e size v n xs) : NilOrB v := by
  rcases h.2 with ⟨e, _⟩ | ⟨b, c, _, e, _⟩
  · exact .inl e
  · exact .inr ⟨b, _, _, e⟩
set_option maxRecDepth 100000 in
set_option maxHeartbeats 2000000 in
theorem cloneGates_any (v : Value) (gs : List Gt) (w : World) (h : Gates w v gs) (hn : gs.length ≤ 1000000) (hv : NilOrB v) :
    Calls Try.prog 68 #[v] w (Cloned gs w) := by
  have q22 : ∀ (w : World) (a : Option Addr) (n c n' c' : Nat), (Go.binOp .eql 37 (.slice a n c) (.slice none n' c')).run Try.prog w = .ok (.bool a.isNone) w := fun w a n c n' c' => Lib.run_eql_slice_nil w _ _ a n c n' c' Try.underlying37
  obtain ⟨i0, hi, hz0, hz1, hz2⟩ := info_parts infoGate
  obtain ⟨a, cap, rfl, hr⟩ := h
  have hr0 := hr
  obtain ⟨hl, hm, h3⟩ := hr0
  rcases hv with hv | ⟨b, len', cap', hv⟩
  · simp only [Value.slice.injEq] at hv
    obtain ⟨rfl, hg, rfl⟩ := hv
    obtain rfl : gs = [] := List.length_eq_zero_iff.1 hg
    have G : Gates w (.slice none 0 0) [] := ⟨none, 0, rfl, hr⟩
    clear hr h3 hm hl hg
    rw [show ([] : List Gt).length = 0 from rfl]
    go_enter Try.func68, Try.ntmps68
    go_wp2
    go_ret
    exact ⟨_, rfl, G, Below.refl _ _⟩
  · simp only [Value.slice.injEq] at hv
    obtain ⟨rfl, rfl, rfl⟩ := hv
    have own0 : (w.alloc (.cells #[] 47)).ownsRow w.heap.size 47 3 (.slice (some ⟨w.heap.size, 0, none⟩) 0 0) 0 [] := World.ownsRow_lit (e := 47) (size := 3) w #[] 0 (Nat.le_refl _) (Nat.zero_le _) rfl
    have B0 := below_self_alloc w (.cells #[] 47)
    have news := Lib.hid (RowS.news3 (hr.below B0))
    have hlen := gflat_len gs
    have hone := Lib.hid (gflat_one gs)
    clear h3 hr
    go_enter Try.func68, Try.ntmps68
    go_wp2_with (at_builtin; refine wpList_append_own _ rfl _ _ _ rfl w.heap.size 47 i0 (.agg #[.bool false, .int .i64 0, .int .i64 0]) 3 24 Try.underlying37 hi hz0 hz1 hz2 rfl (by omega) _ 0 [] rfl own0 ⟨b, 0, none⟩ gs.length cap (gflat gs) rfl hlen news.out hone.out (by unfold maxLen; omega) (by omega) (by simp) ?_; intro v5 w5 own5 hg5 hn5)
    have B5 := below_grows B0 hg5 (fun q hq => (own0.lt q hq).1)
    have own6 : w5.ownsRow w.heap.size 47 3 v5 gs.length (fillS (gcell gs) gzero gs.length 3 gs.length) := by rw [← gflat_fill]; simpa using own5
    go_wp2_with fail
    go_ret
    exact ⟨v5, rfl, gates_own own6, B5⟩

theorem nodes_any (m : Int) (v : Value) (k : Int) (w : World) (h0 : 0 ≤ m) (h1 : m ≤ 1000000) (k0 : 0 ≤ k) (k1 : k ≤ 1000000) :
    Calls Try.prog 69 #[.agg #[.int .i64 m, v], .int .i64 k] w fun e w' => e = .returned (.int .i64 (1 + m + k)) ∧ Below w.heap.size w w' := by
  have hb := below_self_alloc w (.cells #[.int .i64 m, v] 39)
  go_enter Try.func69, Try.ntmps69
  go_wp2
  go_ret
  exact ⟨rfl, hb⟩
end Go.Proofs.Yteeaafdgkepaeaa
