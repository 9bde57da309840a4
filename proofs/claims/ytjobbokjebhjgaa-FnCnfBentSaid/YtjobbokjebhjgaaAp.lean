/- append of append in a region that draws its order: what a block holds, in whatever order it was made. The conditions stand in each statement. -/
import Derived.Test.YtjobbokjebhjgaaDb
import Derived.Test.YtjobbokjebhjgaaDm
namespace Go.Proofs.Ytjobbokjebhjgaa
open Go.RowKit

theorem two_keep {w w' : World} (hb : Below w.heap.size w w') {b o : Nat} {x y : Value} (hl : b < w.heap.size) (h : w.cell? ⟨b, o, none⟩ = some x ∧ w.cell? ⟨b, o + 1, none⟩ = some y) :
    w'.cell? ⟨b, o, none⟩ = some x ∧ w'.cell? ⟨b, o + 1, none⟩ = some y :=
  ⟨(hb.cell (p := ⟨b, o, none⟩) hl).trans h.1, (hb.cell (p := ⟨b, o + 1, none⟩) hl).trans h.2⟩

section
variable {P : Program} (w : World)
theorem step_append_at {ops : Array Oper} {o : Oper} {a : Act} {K : Act → World → Prop} {Q : Exit → Act → World → Prop} {E : Prop} (hgd : o.guard = none) (s x : Operand) (t : TypeId)
    (ho : o.op = .call { callee := .builtin .append, args := #[s, x], argTypes := #[t, t] })
    (base : Nat) (e : TypeId) (i : TypeInfo) (z : Value) (size bytes : Nat) (ht : P.underlying t = some (.slice e)) (hi : P.info? e = some i) (hz : i.zero = some z)
    (hsize : i.size = size) (hby : i.bytes = bytes) (hzs : z.cells.size = size) (hsz : 0 < size)
    (v : Value) (n : Nat) (xs : List Value) (hs : a.eval s = v) (hown : w.ownsRow base e size v n xs)
    (ad : Addr) (m c : Nat) (news : List Value) (hx : a.eval x = .slice (some ad) m c) (hl : news.length = m * size) (hnews : ∀ j u, news[j]? = some u → w.cell? (ad.add j) = some u) (h1 : ∀ u ∈ news, u.oneCell' = true)
    (h63 : n + m ≤ maxLen) (hbytes : (n + m) * bytes ≤ 140737488355328) (hbase : base ≤ w.heap.size)
    (h : ∀ v' w', w'.ownsRow base e size v' (n + m) (xs ++ news) → w.grownBy w' v.ownBlock → (v'.ownBlock = v.ownBlock ∨ v'.ownBlock = some w.heap.size) → K (a.put o.dst v') w') :
    if Region.wanted o (yielded ops a.tmps) = true then Oper.wp P o a w K Q else E := by
  have hw : Region.wanted o (yielded ops a.tmps) = true := by simp [Region.wanted, hgd]
  rw [if_pos hw]
  obtain ⟨v', w', hr, h2, h3, _, h5⟩ := run_append_own_at (P := P) w base t o.type e i z size bytes ht hi hz hsize hby hzs hsz v n xs hown ad m c news hl hnews h1 h63 hbytes hbase
  unfold Oper.wp execOp
  simp only [ho, resolve, invoke, builtin, Sem.run_bind, Sem.run_pure, Result.andThen_ok, List.map_toArray, List.map_cons, List.map_nil, hs, hx, hr]
  exact h v' w' h2 h3 h5
theorem step_append_none {ops : Array Oper} {o : Oper} {a : Act} {K : Act → World → Prop} {Q : Exit → Act → World → Prop} {E : Prop} (hgd : o.guard = none) (s x : Operand) (t : TypeId)
    (ho : o.op = .call { callee := .builtin .append, args := #[s, x], argTypes := #[t, t] })
    (base : Nat) (e : TypeId) (i : TypeInfo) (size : Nat) (ht : P.underlying t = some (.slice e)) (hi : P.info? e = some i)
    (v : Value) (n : Nat) (xs : List Value) (hs : a.eval s = v) (hown : w.ownsRow base e size v n xs) (hx : a.eval x = .slice none 0 0)
    (h : K (a.put o.dst v) w) :
    if Region.wanted o (yielded ops a.tmps) = true then Oper.wp P o a w K Q else E := by
  have hw : Region.wanted o (yielded ops a.tmps) = true := by simp [Region.wanted, hgd]
  rw [if_pos hw]
  have hr := run_append_owned_none (P := P) w base t o.type e i size ht hi v n xs hown
  unfold Oper.wp execOp
  simp only [ho, resolve, invoke, builtin, Sem.run_bind, Sem.run_pure, Result.andThen_ok, List.map_toArray, List.map_cons, List.map_nil, hs, hx, hr]
  exact h
end

theorem intSS_of {wx : World} {base b cap n : Nat} {tt : TypeId} {fs : List Value} {ls : List (List Int)} {l : List Int} {x : Value} (own : wx.ownsRow base tt 1 (.slice (some ⟨b, 0, none⟩) n cap) n (fs ++ [x])) (hn : n = ls.length + 1) (hf : fs.length = ls.length)
    (hF : ∀ i, i < ls.length → Ints wx (fs.getD i undef) (ls.getD i [])) (hx : Ints wx x l) : IntSS wx (.slice (some ⟨b, 0, none⟩) (ls.length + 1) cap) (ls ++ [l]) := by
  subst hn
  obtain ⟨a, c, e, hr⟩ := Row.of_own own
  cases e
  refine ⟨some ⟨b, 0, none⟩, cap, fun i => (fs ++ [x]).getD i undef, by simp, by simpa using hr, fun i hi => ?_⟩
  dsimp only
  rcases Nat.lt_or_ge i ls.length with h1 | h1
  · rw [getD_snoc_lt h1, getD_snoc_lt (by omega)]; exact hF i h1
  · obtain rfl : i = ls.length := by simp at hi; omega
    have e : (fs ++ [x]).getD ls.length undef = x := by rw [← hf]; exact getD_snoc_at
    rw [getD_snoc_at, e]; exact hx
end Go.Proofs.Ytjobbokjebhjgaa
