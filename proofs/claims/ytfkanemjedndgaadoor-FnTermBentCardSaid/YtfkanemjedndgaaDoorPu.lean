/- Rows of one or two terms beside written blocks; append at a step of a drawn region. The conditions stand in each statement. -/
import Derived.Test.YtfkanemjedndgaaDoorPh
import Derived.Test.YtfkanemjedndgaaDoorPl
import Derived.Test.YtfkanemjedndgaaDoorDm
import Derived.Deep.AppendLies
namespace Go.Proofs.YtfkanemjedndgaaDoor
open Go.RowKit

section
variable {P : Program} (w : World)
theorem step_append_at {ops : Array Oper} {o : Oper} {a : Act} {K : Act → World → Prop} {Q : Exit → Act → World → Prop} {E : Prop} (hgd : o.guard = none) (s x : Operand) (t : TypeId)
    (ho : o.op = .call { callee := .builtin .append, args := #[s, x], argTypes := #[t, t] })
    (base : Nat) (e : TypeId) (i : TypeInfo) (z : Value) (size bytes : Nat) (ht : P.underlying t = some (.slice e)) (hi : P.info? e = some i) (hz : i.zero = some z)
    (hsize : i.size = size) (hby : i.bytes = bytes) (hzs : z.cells.size = size) (hsz : 0 < size)
    (v : Value) (n : Nat) (xs : List Value) (hs : a.eval s = v) (hown : w.ownsRow base e size v n xs)
    (ad : Addr) (m c : Nat) (news : List Value) (hx : a.eval x = .slice (some ad) m c) (hl : news.length = m * size) (hnews : ∀ j u, news[j]? = some u → w.cell? (ad.add j) = some u) (h1 : ∀ u ∈ news, u.oneCell' = true)
    (h63 : n + m ≤ maxLen) (hbytes : (n + m) * bytes ≤ 140737488355328) (hbase : base ≤ w.heap.size)
    (h : ∀ v' w', w'.ownsRow base e size v' (n + m) (xs ++ news) → w.grownBy w' v.ownBlock → (v'.ownBlock = v.ownBlock ∨ v'.ownBlock = some w.heap.size) → K (a.put o.dst v') w') :
    if Region.wanted o (yielded ops a.tmps) = true then Oper.wp P o a w K Q else E := by
  have hw : Region.wanted o (yielded ops a.tmps) = true := by simp [Region.wanted, hgd]
  rw [if_pos hw]
  obtain ⟨v', w', hr, h2, h3, _, h5⟩ := run_append_own_at (P := P) w base t o.type e i z size bytes ht hi hz hsize hby hzs hsz v n xs hown ad m c news hl hnews h1 h63 hbytes hbase
  unfold Oper.wp execOp
  simp only [ho, resolve, invoke, builtin, Sem.run_bind, Sem.run_pure, Result.andThen_ok, List.map_toArray, List.map_cons, List.map_nil, hs, hx, hr]
  exact h v' w' h2 h3 h5
theorem step_append_none {ops : Array Oper} {o : Oper} {a : Act} {K : Act → World → Prop} {Q : Exit → Act → World → Prop} {E : Prop} (hgd : o.guard = none) (s x : Operand) (t : TypeId)
    (ho : o.op = .call { callee := .builtin .append, args := #[s, x], argTypes := #[t, t] })
    (base : Nat) (e : TypeId) (i : TypeInfo) (size : Nat) (ht : P.underlying t = some (.slice e)) (hi : P.info? e = some i)
    (v : Value) (n : Nat) (xs : List Value) (hs : a.eval s = v) (hown : w.ownsRow base e size v n xs) (hx : a.eval x = .slice none 0 0)
    (h : K (a.put o.dst v) w) :
    if Region.wanted o (yielded ops a.tmps) = true then Oper.wp P o a w K Q else E := by
  have hw : Region.wanted o (yielded ops a.tmps) = true := by simp [Region.wanted, hgd]
  rw [if_pos hw]
  have hr := run_append_owned_none (P := P) w base t o.type e i size ht hi v n xs hown
  unfold Oper.wp execOp
  simp only [ho, resolve, invoke, builtin, Sem.run_bind, Sem.run_pure, Result.andThen_ok, List.map_toArray, List.map_cons, List.map_nil, hs, hx, hr]
  exact h
end

theorem wf_of {x : Int} (h0 : -9000 ≤ x) (h1 : x ≤ 9000) : (Lit.int .i64 x).wf = true := by
  have e1 : IntKind.i64.min = -9223372036854775808 := rfl
  have e2 : IntKind.i64.max = 9223372036854775807 := rfl
  simp [Lit.wf, e1, e2]; omega
theorem tw_of : ∀ {D : Nat} {ks : List Tm}, TD D ks → TW D ks
  | 0, _, _ => trivial
  | d + 1, ks, h => fun i hi => by
    obtain ⟨⟨a, b, c, d', e, f, _⟩, h2⟩ := h i hi
    exact ⟨⟨wf_of (by omega) (by omega), wf_of (by omega) (by omega), wf_of (by omega) (by omega)⟩, tw_of h2⟩
theorem kS_length {ds : List Dc} {d : Nat} {w : World} {s : Value} {ks : List Tm} (h : SIn d w s ks) : (kS ds d ks).length = ks.length := kS_len h
theorem dd_pos : ∀ (d : Nat) (ks : List Tm), 1 ≤ DD d ks
  | 0, _ => Nat.le_refl _
  | d + 1, ks => by show 1 ≤ 1 + _; omega
theorem dd_one (d : Nat) (u : Tm) : DD (d + 1) [u] = 1 + DD d u.ks := by
  show 1 + max 0 (DD d u.ks) = _
  omega
theorem tw_one {d : Nat} {u : Tm} (h : Wf3 u) (hk : TW d u.ks) : TW (d + 1) [u] := fun i hi => by
  obtain rfl : i = 0 := by simpa using hi
  exact ⟨h, hk⟩
theorem tw_two {d : Nat} {u : Tm} (h : Wf3 u) (hk : TW d u.ks) : TW (d + 1) [u, u] := fun i hi => by
  have : i = 0 ∨ i = 1 := by simp at hi; omega
  rcases this with rfl | rfl <;> exact ⟨h, hk⟩
def Nms (ks : List Tm) : Prop := ∀ i, i < ks.length → (ks.getD i tz).nm.size ≤ 9223372036854775807
theorem nms_one {u : Tm} (h : u.nm.size ≤ 9223372036854775807) : Nms [u] := fun i hi => by
  obtain rfl : i = 0 := by simpa using hi
  exact h
theorem nms_two {u : Tm} (h : u.nm.size ≤ 9223372036854775807) : Nms [u, u] := fun i hi => by
  have : i = 0 ∨ i = 1 := by simp at hi; omega
  rcases this with rfl | rfl <;> exact h
theorem mkTopX2 {B h d : Nat} {w : World} {u : Tm} {s : Value} (T : TypeId) (hk : KX B h d w s u.ks) (hB : B ≤ w.heap.size) (hh : h + 1 < w.heap.size) :
    TopX B h (d + 1) (w.alloc (.cells #[.int .i64 u.op, .int .i64 u.a, .int .i64 u.b, .string u.nm, s, .int .i64 u.op, .int .i64 u.a, .int .i64 u.b, .string u.nm, s] T)) (.slice (some ⟨w.heap.size, 0, none⟩) 2 2) [u, u] := by
  refine .inr ⟨d, w.heap.size, 2, fun _ => s, rfl, rfl, ⟨Nat.le_refl _, by unfold maxLen; simp, .inr ⟨w.heap.size, 0, rfl, by simp, fun i hi j hj => ?_⟩⟩, hB, by simp, by omega, by omega, fun i hi => ?_⟩
  · have h2 : i = 0 ∨ i = 1 := by simp at hi; omega
    rw [World.cell?_alloc_new]
    have h5 : j = 0 ∨ j = 1 ∨ j = 2 ∨ j = 3 ∨ j = 4 := by omega
    rcases h2 with rfl | rfl <;> rcases h5 with rfl | rfl | rfl | rfl | rfl <;> rfl
  · have h2 : i = 0 ∨ i = 1 := by simp at hi; omega
    rcases h2 with rfl | rfl <;> exact hk.on (keptX_alloc B h w _)
/-- a row of one term -/
theorem sIn_one {d : Nat} {w : World} {u : Tm} {s : Value} (T : TypeId) (hk : SIn d w s u.ks) (hn : u.nm.size ≤ 9223372036854775807) :
    SIn (d + 1) (w.alloc (.cells #[.int .i64 u.op, .int .i64 u.a, .int .i64 u.b, .string u.nm, s] T)) (.slice (some ⟨w.heap.size, 0, none⟩) 1 1) [u] := by
  refine ⟨some ⟨w.heap.size, 0, none⟩, 1, fun _ => s, rfl, ⟨Nat.le_refl _, by unfold maxLen; simp, .inr ⟨w.heap.size, 0, rfl, by simp, fun i hi j hj => ?_⟩⟩, nms_one hn, fun i hi => ?_⟩
  · obtain rfl : i = 0 := by simpa using hi
    rw [World.cell?_alloc_new]
    have h5 : j = 0 ∨ j = 1 ∨ j = 2 ∨ j = 3 ∨ j = 4 := by omega
    rcases h5 with rfl | rfl | rfl | rfl | rfl <;> rfl
  · obtain rfl : i = 0 := by simpa using hi
    exact hk.below (below_self_alloc w _)
/-- TW one kid more -/
theorem tw_snoc {B D : Nat} {w : World} {s : Value} {ks : List Tm} {u : Tm} (top : Top B D w s ks) (h : TW D ks) (hu : Wf3 u) (hk : TW D u.ks) : TW (D + 1) (ks ++ [u]) := by
  intro i hi
  by_cases h1 : i < ks.length
  · rw [snoc_getD_lt h1]
    rcases top with ⟨_, rfl⟩ | ⟨d, b, cap, S, rfl, rfl, hr, hb, hl, hS⟩
    · exact absurd h1 (Nat.not_lt_zero _)
    · exact ⟨(h i h1).1, TW.up (hS i h1).now (h i h1).2⟩
  · have : i = ks.length := by simp at hi; omega
    subst this; rw [snoc_getD_at]; exact ⟨hu, hk⟩
theorem Top.up {B D : Nat} {w : World} {ks : List Tm} {b cap : Nat} {S : Nat → Value} {d : Nat} (_h : D = d + 1) (_hr : RowS w (some ⟨b, 0, none⟩) ks.length cap 5 (tcell ks S)) (hS : ∀ i, i < ks.length → KS B d w (S i) (ks.getD i tz).ks) : ∀ i, i < ks.length → KS B D w (S i) (ks.getD i tz).ks := by
  subst _h
  exact fun i hi w' h => (hS i hi w' h).up
end Go.Proofs.YtfkanemjedndgaaDoor
