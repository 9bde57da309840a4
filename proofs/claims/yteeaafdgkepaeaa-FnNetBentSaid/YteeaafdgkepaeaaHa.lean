/- Draws of nets: marks, and gates that are put in. The conditions stand in each statement. -/
import Derived.Test.YteeaafdgkepaeaaNd
import Derived.Test.YteeaafdgkepaeaaRn
import Derived.Test.YteeaafdgkepaeaaDm
import Derived.Test.YteeaafdgkepaeaaDn
import Derived.Deep.AppendLies
namespace Go.Proofs.Yteeaafdgkepaeaa
open Go.RowKit

theorem RdOk.le {w : World} {g : Nat} {v : Value} {P P' : Nat} (h : RdOk w g v P) (hp : P ≤ P') : RdOk w g v P' := by
  obtain ⟨p, h1, h2⟩ := h; exact ⟨p, Nat.le_trans h1 hp, h2⟩
/-- only a row that was not there when the reader was seen to be well has turned -/
theorem RdOk.growNew {w w' w0 : World} {g : Nat} {v : Value} {P P0 : Nat} {row : Option Nat} (h : RdOk w g v P) (h0 : RdOk w0 g v P0) (hg : w.grownBy w' row) (hr : ∀ k, row = some k → w0.heap.size ≤ k) : RdOk w' g v P := by
  have hl := h0.lt
  have hb : ∀ q, w0.heap.size ≤ q → ∀ b off len cap, v = .slice (some ⟨b, off, none⟩) len cap → 1 ≤ len → b ≠ q := fun q hq => rd_code_ne h0 hq
  obtain ⟨p, h1, h2, h3⟩ := h
  have hgl : g < w.heap.size := (Array.getElem?_eq_some_iff.1 h2).1
  refine ⟨p, h1, (hg.block g hgl (fun e => ?_)).trans h2, ?_⟩
  · have := hr g e.symm; omega
  · rcases h3 with h3 | ⟨b, off, len, cap, rfl, a1, a2, a3, a4, a5⟩
    · exact .inl h3
    · refine .inr ⟨b, off, len, cap, rfl, a1, a2, a3, Nat.lt_of_lt_of_le a4 hg.size, fun i hi => ?_⟩
      obtain ⟨u, hu, hc⟩ := a5 i hi
      refine ⟨u, hu, hg.cell hc (fun e => ?_)⟩
      exact hb b (hr b e.symm) b off len cap rfl a1 rfl
theorem grown_new {a w w' : World} {g : Nat} {row : Option Nat} (h : a.grownBy w (some g)) (hg : w.grownBy w' row) (hr : ∀ k, row = some k → a.heap.size ≤ k) : a.grownBy w' (some g) :=
  ⟨hg.os.trans h.os, hg.tape.trans h.tape, hg.output.trans h.output, Nat.le_trans h.size hg.size, fun i hi hne => (hg.block i (Nat.lt_of_lt_of_le hi h.size) (fun e => by have := hr i e.symm; omega)).trans (h.block i hi hne)⟩
/-- a row of one's own over a step that turns only a block below its base -/
theorem own_grown {w w' : World} {base size n g : Nat} {e : TypeId} {v : Value} {xs : List Value} (h : w.ownsRow base e size v n xs) (hg : w.grownBy w' (some g)) (hlt : g < base) : w'.ownsRow base e size v n xs :=
  h.kept hg (by
    cases hv : v.ownBlock with
    | none => exact .inl rfl
    | some k => exact .inr (fun e => by have := (h.lt k hv).1; simp at e; omega))
theorem own_row_ge {w : World} {base size n : Nat} {e : TypeId} {v : Value} {xs : List Value} (h : w.ownsRow base e size v n xs) : ∀ k, v.ownBlock = some k → base ≤ k := fun k hk => (h.lt k hk).1
section
variable {P : Program} (w : World)
theorem step_append_at {ops : Array Oper} {o : Oper} {a : Act} {K : Act → World → Prop} {Q : Exit → Act → World → Prop} {E : Prop} (hgd : o.guard = none) (s x : Operand) (t : TypeId)
    (ho : o.op = .call { callee := .builtin .append, args := #[s, x], argTypes := #[t, t] })
    (base : Nat) (e : TypeId) (i : TypeInfo) (z : Value) (size bytes : Nat) (ht : P.underlying t = some (.slice e)) (hi : P.info? e = some i) (hz : i.zero = some z)
    (hsize : i.size = size) (hby : i.bytes = bytes) (hzs : z.cells.size = size) (hsz : 0 < size)
    (v : Value) (n : Nat) (xs : List Value) (hs : a.eval s = v) (hown : w.ownsRow base e size v n xs)
    (ad : Addr) (m c : Nat) (news : List Value) (hx : a.eval x = .slice (some ad) m c) (hl : news.length = m * size) (hnews : ∀ j u, news[j]? = some u → w.cell? (ad.add j) = some u) (h1 : ∀ u ∈ news, u.oneCell' = true)
    (h63 : n + m ≤ maxLen) (hbytes : (n + m) * bytes ≤ 140737488355328) (hbase : base ≤ w.heap.size)
    (h : ∀ v' w', w'.ownsRow base e size v' (n + m) (xs ++ news) → w.grownBy w' v.ownBlock → (v'.ownBlock = v.ownBlock ∨ v'.ownBlock = some w.heap.size) → K (a.put o.dst v') w') :
    if Region.wanted o (yielded ops a.tmps) = true then Oper.wp P o a w K Q else E := by
  have hw : Region.wanted o (yielded ops a.tmps) = true := by simp [Region.wanted, hgd]
  rw [if_pos hw]
  obtain ⟨v', w', hr, h2, h3, _, h5⟩ := run_append_own_at (P := P) w base t o.type e i z size bytes ht hi hz hsize hby hzs hsz v n xs hown ad m c news hl hnews h1 h63 hbytes hbase
  unfold Oper.wp execOp
  simp only [ho, resolve, invoke, builtin, Sem.run_bind, Sem.run_pure, Result.andThen_ok, List.map_toArray, List.map_cons, List.map_nil, hs, hx, hr]
  exact h v' w' h2 h3 h5
theorem step_append_none {ops : Array Oper} {o : Oper} {a : Act} {K : Act → World → Prop} {Q : Exit → Act → World → Prop} {E : Prop} (hgd : o.guard = none) (s x : Operand) (t : TypeId)
    (ho : o.op = .call { callee := .builtin .append, args := #[s, x], argTypes := #[t, t] })
    (base : Nat) (e : TypeId) (i : TypeInfo) (size : Nat) (ht : P.underlying t = some (.slice e)) (hi : P.info? e = some i)
    (v : Value) (n : Nat) (xs : List Value) (hs : a.eval s = v) (hown : w.ownsRow base e size v n xs) (hx : a.eval x = .slice none 0 0)
    (h : K (a.put o.dst v) w) :
    if Region.wanted o (yielded ops a.tmps) = true then Oper.wp P o a w K Q else E := by
  have hw : Region.wanted o (yielded ops a.tmps) = true := by simp [Region.wanted, hgd]
  rw [if_pos hw]
  have hr := run_append_owned_none (P := P) w base t o.type e i size ht hi v n xs hown
  unfold Oper.wp execOp
  simp only [ho, resolve, invoke, builtin, Sem.run_bind, Sem.run_pure, Result.andThen_ok, List.map_toArray, List.map_cons, List.map_nil, hs, hx, hr]
  exact h
end

theorem snocG_lt {α : Type} {l : List α} {x d : α} {i : Nat} (h : i < l.length) : (l ++ [x]).getD i d = l.getD i d := by
  simp [List.getD_eq_getElem?_getD, List.getElem?_append_left h]
theorem snocG_at {α : Type} {l : List α} {x d : α} : (l ++ [x]).getD l.length d = x := by
  simp [List.getD_eq_getElem?_getD]
def OwnG (w : World) (B : Nat) (v : Value) (gs : List Gt) : Prop := w.ownsRow B 47 3 v gs.length (gflat gs)
theorem OwnG.gates {w : World} {B : Nat} {v : Value} {gs : List Gt} (h : OwnG w B v gs) : Gates w v gs := gates_own (base := B) (by rw [← gflat_fill]; exact h)
theorem OwnG.below {w w' : World} {B : Nat} {v : Value} {gs : List Gt} (h : OwnG w B v gs) (hb : Below w.heap.size w w') : OwnG w' B v gs := h.kept (⟨hb.os, hb.tape, hb.output, hb.size, fun k hk _ => hb.block k hk⟩ : w.grownBy w' none) (by cases hv : v.ownBlock <;> simp)
theorem gflat_append : ∀ a b : List Gt, gflat (a ++ b) = gflat a ++ gflat b
  | [], _ => rfl
  | g :: gs, b => by simp only [List.cons_append, gflat, gflat_append gs b]
def GIn (g : Gt) : Prop := -1000 ≤ g.2.1 ∧ g.2.1 ≤ 1000 ∧ -1000 ≤ g.2.2 ∧ g.2.2 ≤ 1000
def GB (gs : List Gt) : Prop := ∀ i, i < gs.length → GIn (gs.getD i gz)
theorem gb_nil : GB [] := fun _ h => absurd h (Nat.not_lt_zero _)
theorem GB.snoc {gs : List Gt} {g : Gt} (h : GB gs) (hg : GIn g) : GB (gs ++ [g]) := fun i hi => by
  by_cases h1 : i < gs.length
  · rw [snocG_lt h1]; exact h i h1
  · have : i = gs.length := by simp at hi; omega
    subst this; rw [snocG_at]; exact hg

set_option maxHeartbeats 1000000 in
theorem l6Many_any (m : Int) (v : Value) (gs : List Gt) (w : World) (h : Gates w v gs) (m0 : 0 ≤ m) (m1 : m ≤ 100) (hl : gs.length ≤ 1000) :
    Calls Try.prog 74 #[.agg #[.int .i64 m, v]] w fun e w' => e = .returned (.int .i64 (1 + m + gs.length)) ∧ Below w.heap.size w w' := by
  obtain ⟨a, cap, rfl⟩ := h.form
  clear h
  have B := below_self_alloc w (.cells #[.int .i64 m, .slice a gs.length cap] 39)
  have h1 : IntKind.i64.wrap (1 + m) = 1 + m := IntWalk.i64_in _ (by omega)
  have h2 : IntKind.i64.wrap (1 + m + gs.length) = 1 + m + gs.length := IntWalk.i64_in _ (by omega)
  go_enter Try.func74, Try.ntmps74
  go_wp2_with fail
  go_ret
  exact ⟨rfl, B⟩

set_option maxRecDepth 100000 in
set_option maxHeartbeats 2000000 in
theorem l6Lit_any (g P : Nat) (u : Value) (m : Int) (v : Value) (gs : List Gt) (w : World) (hr : RdOk w g u P) (hP : P ≤ 900000) (h : Gates w v gs) (m0 : 0 ≤ m) (m1 : m ≤ 100) (hl : gs.length ≤ 800) :
    Calls Try.prog 70 #[.pointer (some ⟨g, 0, none⟩), .agg #[.int .i64 m, v]] w (Drawn g u (P + 2) (IsIn (fun x => -1000 ≤ x ∧ x ≤ 1000)) w) := by
  have C := l6Many_any m v gs
  obtain ⟨a, cap, rfl⟩ := h.form
  have G := World.grownBy_alloc w (.cells #[.int .i64 m, .slice a gs.length cap] 39) (some g)
  have R := hr.alloc (.cells #[.int .i64 m, .slice a gs.length cap] 39)
  have hB := below_self_alloc w (.cells #[.int .i64 m, .slice a gs.length cap] 39)
  replace h := h.below hB
  replace C := Lib.hid C
  clear hr hB
  go_enter Try.func70, Try.ntmps70
  go_wp2_with fail
  refine (C.out _ h m0 m1 (by omega)).mono ?_; rintro e w2 ⟨rfl, hb⟩
  replace G := grown_below G hb; replace R := R.below hb
  clear C h hb
  go_wp2_with fail
  refine (pick_any g P u _ w2 R (by omega)).mono ?_
  rintro e w3 ⟨k, rfl, k0, k1, _, hg, R3⟩
  have k2 := k1 (by omega)
  replace G := grown_two G hg
  clear R hg k1
  have h1 : IntKind.i64.wrap (1 + k) = 1 + k := IntWalk.i64_in _ (by omega)
  go_wp2_with fail
  refine (pick_any g _ u 2 w3 R3 (by omega)).mono ?_
  rintro e w4 ⟨q, rfl, q0, q1, _, hg, R4⟩
  replace G := grown_two G hg
  clear R3 hg
  have h2 : IntKind.i64.wrap (-(1 + k)) = -(1 + k) := IntWalk.i64_in _ (by omega)
  by_cases hq : q = 0
  · subst hq
    go_wp2_with fail
    go_ret
    exact ⟨_, rfl, ⟨_, rfl, by omega, by omega⟩, G, R4⟩
  · have dq : (q == 0) = false := by simpa using hq
    go_wp2_with fail
    go_ret
    exact ⟨_, rfl, ⟨_, rfl, by omega, by omega⟩, G, R4⟩

theorem ownsRow_drew {w : World} {base size n : Nat} {e : TypeId} {v : Value} {xs : List Value} (h : w.ownsRow base e size v n xs) : w.drew.ownsRow base e size v n xs := h
theorem snoc_len (gs : List Gt) (g : Gt) : (gs ++ [g]).length = gs.length + 1 := by simp
theorem putSnoc {w : World} {B b c : Nat} {gs : List Gt} {g : Gt} (h : w.ownsRow B 47 3 (.slice (some ⟨b, 0, none⟩) (gs.length + 1) c) (gs.length + 1) (gflat gs ++ [.bool g.1, .int .i64 g.2.1, .int .i64 g.2.2])) : OwnG w B (.slice (some ⟨b, 0, none⟩) (gs.length + 1) c) (gs ++ [g]) := by
  unfold OwnG
  rw [snoc_len, gflat_append]
  exact h

def PutG (B : Nat) (m : Int) (v : Value) (gs : List Gt) (g : Gt) (w : World) (e : Ending) (w' : World) : Prop :=
  ∃ (gs' : List Gt) (a' : Option Addr) (c' : Nat) (k : Int), e = .returned (.tuple #[.agg #[.int .i64 m, .slice a' gs'.length c'], .int .i64 k]) ∧ OwnG w' B (.slice a' gs'.length c') gs' ∧ (gs' = gs ∨ gs' = gs ++ [g]) ∧ 0 ≤ k ∧ k ≤ 2000 ∧ (∀ q, (Value.slice a' gs'.length c').ownBlock = some q → v.ownBlock = some q ∨ w.heap.size ≤ q) ∧ Below w.heap.size w w'

set_option linter.unusedVariables false in
set_option maxRecDepth 100000 in
set_option maxHeartbeats 8000000 in
theorem l6Put_any (B : Nat) (m : Int) (v : Value) (gs : List Gt) (x0 : Bool) (x1 x2 : Int) (w : World) (own : OwnG w B v gs) (hB : B ≤ w.heap.size) (m0 : 0 ≤ m) (m1 : m ≤ 100) (hl : gs.length ≤ 500) :
    Calls Try.prog 79 #[.agg #[.int .i64 m, v], .agg #[.bool x0, .int .i64 x1, .int .i64 x2]] w (PutG B m v gs (x0, x1, x2) w) := by
  obtain ⟨i0, hi, hz0, hz1, hz2⟩ := info_parts infoGate
  obtain ⟨a, cap, rfl⟩ := own.gates.form
  go_enter Try.func79, Try.ntmps79
  go_upto_region 1 with fail
  obtain ⟨W, hW⟩ : ∃ W, W = ((w.alloc (.cells #[.int .i64 m, .slice a gs.length cap] 39)).alloc (.cells #[.bool x0, .int .i64 x1, .int .i64 x2] 47)).alloc (.cells #[.int .i64 0, .slice none 0 0] 39) := ⟨_, rfl⟩
  rw [← hW]
  have A2 : Blk W w.heap.size (.int .i64 m) (.slice a gs.length cap) 39 := by rw [hW]; exact ((blk_new w _ _ _).alloc _).alloc _
  have A3 : Blk3 W (w.heap.size + 1) (.bool x0) (.int .i64 x1) (.int .i64 x2) 47 := by rw [hW]; exact (blk3_new1 w _ _ _ _ _).alloc _
  have A4 : Blk W (w.heap.size + 1 + 1) (.int .i64 0) (.slice none 0 0) 39 := by rw [hW]; have := blk_new1 (w.alloc (.cells #[.int .i64 m, .slice a gs.length cap] 39)) (.cells #[.bool x0, .int .i64 x1, .int .i64 x2] 47) (.int .i64 0) (.slice none 0 0) 39; simpa using this
  have BW : Below w.heap.size w W := by rw [hW]; exact below_step (below_step (below_self_alloc w _) _) _
  have hs : W.heap.size = w.heap.size + 3 := by rw [hW]; simp
  have hne4 : (Value.slice a gs.length cap).ownBlock ≠ some (w.heap.size + 1 + 1) := fun e => by have := (own.lt _ e).2; omega
  replace own := own.below BW
  clear hW
  have hG := own.gates
  have hr := hG.row
  have OW := Lib.hid own
  clear own hG
  obtain ⟨C0, C1, _⟩ := A2.cells; obtain ⟨D0, D1, D2, _⟩ := A3.cells
  go_wp2_with fail
  go_loopw [6] (fun i wr => ∃ (k n : Nat), i = .int .i64 k ∧ k ≤ gs.length ∧ wr = W.drewN n) (fun i _ => gs.length - (intOf i).toNat)
  case atStart => exact ⟨0, 0, rfl, Nat.zero_le _, rfl⟩
  case round =>
    obtain ⟨k, n, rfl, hk, rfl⟩ := hrel
    by_cases hlt : k < gs.length
    · obtain ⟨b', off', rfl, _, f5, f6, f7⟩ := hr.three hlt
      have hj0 : (0 : Int) ≤ (k : Int) := by omega
      have hj1 : (k : Int) < (gs.length : Int) := by omega
      have hgk : gs.getD k gz = gs.getD k gz := rfl
      generalize gs.getD k gz = y at f5 f6 f7
      obtain ⟨t0, t1, t2⟩ := y
      dsimp only at f5 f6 f7
      clear hgk hr
      by_cases hxy : ((t0, t1, t2) : Gt) = (x0, x1, x2)
      · obtain ⟨rfl, rfl, rfl⟩ : t0 = x0 ∧ t1 = x1 ∧ t2 = x2 := by simpa using hxy
        clear hxy
        go_wp2_with fail
        go_quiet (fail)
        rename_i nq
        go_upto_region 5 with fail
        have hw1 : IntKind.i64.wrap (2 + m) = 2 + m := IntWalk.i64_in _ (by omega)
        have hw2 : IntKind.i64.wrap (2 + m + k) = 2 + m + k := IntWalk.i64_in _ (by omega)
        have A2V := ((A2.drewN n).drewN nq).drew; have A4V := ((A4.drewN n).drewN nq).drew
        have BV := (below_drewN (below_drewN BW n) nq).drew
        have OV : OwnG ((W.drewN n).drewN nq).drew B (.slice (some ⟨b', off', none⟩) gs.length cap) gs := OW.out
        obtain ⟨Vw, hV⟩ : ∃ Vw, Vw = ((W.drewN n).drewN nq).drew := ⟨_, rfl⟩
        refine wp_region_noPanic ?_
        refine wp_region_held_drew (S := fun wx : World => wx.cell? ⟨w.heap.size, 0, none⟩ = some (.int .i64 m) ∧ wx.cell? ⟨w.heap.size, 1, none⟩ = some (.slice (some ⟨b', off', none⟩) gs.length cap)) (by kernel_rfl) (⟨A2V.cells.1, A2V.cells.2.1⟩) (fun hHeld => ?_)
        rw [← hV] at hHeld A2V A4V BV OV ⊢
        have hs4 : Vw.heap.size = w.heap.size + 3 := by rw [hV]; exact hs
        clear hV
        obtain ⟨F0, F1⟩ := A4V.frozen
        obtain ⟨E0, E1, _⟩ := A4V.cells
        refine wpAnyH_take (i := 0) (oi := { dst := some 21, op := Go.Op.load 39 (Go.Operand.tmp 2), type := 39, pos := _, after := #[], guard := none }) (v := ?_) rfl (by kernel_rfl) (by kernel_rfl) (by kernel_rfl) (fun _ _ _ h => h) (Or.inl ⟨by rfl, ?_⟩) hHeld ?_
        rotate_left
        · (intro wq hSw; (try dsimp only at hSw); (try go_simp); (try with_reducible rfl))
        try simp only [Act.put, List.setIfInBounds_toArray, List.set_cons_zero, List.set_cons_succ]
        refine wpAnyH_take (i := 1) (oi := { dst := some 22, op := Go.Op.fieldAddr 39 (Go.Operand.tmp 2) 0, type := 0, pos := _, after := #[{ on := 6, ground := Go.Ground.gcOnly Go.Departure.lateStores }], guard := none }) (v := ?_) rfl (by kernel_rfl) (by kernel_rfl) (by kernel_rfl) (fun _ _ _ h => h) (Or.inl ⟨by rfl, ?_⟩) hHeld ?_
        rotate_left
        · (intro wq hSw; (try dsimp only at hSw); (try go_simp); (try with_reducible rfl))
        try simp only [Act.put, List.setIfInBounds_toArray, List.set_cons_zero, List.set_cons_succ]
        refine wpAnyH_take (i := 2) (oi := { dst := some 23, op := Go.Op.load 3 (Go.Operand.tmp 22), type := 3, pos := _, after := #[{ on := 1, ground := Go.Ground.data }, { on := 6, ground := Go.Ground.gcOnly Go.Departure.lateStores }], guard := none }) (v := ?_) rfl (by kernel_rfl) (by kernel_rfl) (by kernel_rfl) (fun _ _ _ h => h) (Or.inl ⟨by rfl, ?_⟩) hHeld ?_
        rotate_left
        · (intro wq hSw; (try dsimp only at hSw); (try go_simp); (try with_reducible rfl))
        try simp only [Act.put, List.setIfInBounds_toArray, List.set_cons_zero, List.set_cons_succ]
        refine wpAnyH_take (i := 3) (oi := { dst := some 24, op := Go.Op.binOp Go.BinOp.add 3 (Go.Operand.const (Go.Value.int Go.IntKind.i64 2)) (Go.Operand.tmp 23) 3, type := 3, pos := _, after := #[{ on := 2, ground := Go.Ground.data }, { on := 6, ground := Go.Ground.gcOnly Go.Departure.lateStores }], guard := none }) (v := ?_) rfl (by kernel_rfl) (by kernel_rfl) (by kernel_rfl) (fun _ _ _ h => h) (Or.inl ⟨by rfl, ?_⟩) hHeld ?_
        rotate_left
        · (intro wq hSw; (try dsimp only at hSw); (try go_simp); (try with_reducible rfl))
        try simp only [Act.put, List.setIfInBounds_toArray, List.set_cons_zero, List.set_cons_succ]
        refine wpAnyH_take (i := 4) (oi := { dst := some 25, op := Go.Op.move (Go.Operand.tmp 6), type := 3, pos := _, after := #[{ on := 6, ground := Go.Ground.gcOnly Go.Departure.lateStores }], guard := none }) (v := ?_) rfl (by kernel_rfl) (by kernel_rfl) (by kernel_rfl) (fun _ _ _ h => h) (Or.inl ⟨by rfl, ?_⟩) hHeld ?_
        rotate_left
        · (intro wq hSw; (try dsimp only at hSw); (try go_simp); (try with_reducible rfl))
        try simp only [Act.put, List.setIfInBounds_toArray, List.set_cons_zero, List.set_cons_succ]
        refine wpAnyH_take (i := 5) (oi := { dst := some 26, op := Go.Op.binOp Go.BinOp.add 3 (Go.Operand.tmp 24) (Go.Operand.tmp 25) 3, type := 3, pos := _, after := #[{ on := 3, ground := Go.Ground.data }, { on := 4, ground := Go.Ground.data }, { on := 6, ground := Go.Ground.gcOnly Go.Departure.lateStores }], guard := none }) (v := ?_) rfl (by kernel_rfl) (by kernel_rfl) (by kernel_rfl) (fun _ _ _ h => h) (Or.inl ⟨by rfl, ?_⟩) hHeld ?_
        rotate_left
        · (intro wq hSw; (try dsimp only at hSw); (try go_simp); (try with_reducible rfl))
        try simp only [Act.put, List.setIfInBounds_toArray, List.set_cons_zero, List.set_cons_succ]
        have A2s := ((A2V.set_other (p := ⟨w.heap.size + 1 + 1, 0, none⟩) (z := .int .i64 m) (by simp; omega)).set_other (p := ⟨w.heap.size + 1 + 1, 1, none⟩) (z := .slice (some ⟨b', off', none⟩) gs.length cap) (by simp; omega))
        obtain ⟨c0, c1, _⟩ := A2s.cells
        refine wpAnyH_ready (rs := [6]) (by kernel_rfl) (by simp) ?_
        refine AllReadyH.cons (o := { dst := none, op := Go.Op.store 39 (Go.Operand.tmp 4) (Go.Operand.tmp 21), type := 0, pos := _, after := #[{ on := 0, ground := Go.Ground.data }, { on := 0, ground := Go.Ground.phase }, { on := 1, ground := Go.Ground.textOnly Go.Departure.lateStores }, { on := 2, ground := Go.Ground.textOnly Go.Departure.lateStores }, { on := 3, ground := Go.Ground.textOnly Go.Departure.lateStores }, { on := 4, ground := Go.Ground.textOnly Go.Departure.lateStores }, { on := 5, ground := Go.Ground.textOnly Go.Departure.lateStores }], guard := none }) rfl (fun KK hKK => ?_) AllReadyH.nil
        go_simp
        refine hKK.out _ _ (⟨c0, c1⟩) (fun hHeld => ?_)
        clear hKK KK
        try simp only [Act.put, List.setIfInBounds_toArray, List.set_cons_zero, List.set_cons_succ]
        refine wpAnyH_take (i := 7) (oi := { dst := some 5, op := Go.Op.assign (Go.Operand.tmp 26), type := 3, pos := _, after := #[{ on := 5, ground := Go.Ground.data }, { on := 6, ground := Go.Ground.chain }, { on := 0, ground := Go.Ground.phase }, { on := 1, ground := Go.Ground.phase }, { on := 2, ground := Go.Ground.phase }, { on := 3, ground := Go.Ground.phase }, { on := 4, ground := Go.Ground.phase }, { on := 5, ground := Go.Ground.phase }, { on := 6, ground := Go.Ground.phase }], guard := none }) (v := ?_) rfl (by kernel_rfl) (by kernel_rfl) (by kernel_rfl) (fun _ _ _ h => h) (Or.inl ⟨by rfl, ?_⟩) hHeld ?_
        rotate_left
        · (intro wq hSw; (try dsimp only at hSw); (try go_simp); (try with_reducible rfl))
        try simp only [Act.put, List.setIfInBounds_toArray, List.set_cons_zero, List.set_cons_succ]
        refine wpAnyH_done (by kernel_rfl) ?_ _
        refine NoPanic.normal ?_
        have A4f := (A4V.set0 (.int .i64 m)).set1 (.slice (some ⟨b', off', none⟩) gs.length cap)
        obtain ⟨r0, r1, _⟩ := A4f.cells
        have OF := own_setCell (own_setCell OV (p := ⟨w.heap.size + 1 + 1, 0, none⟩) (hne4) (.int .i64 m)) (p := ⟨w.heap.size + 1 + 1, 1, none⟩) (hne4) (.slice (some ⟨b', off', none⟩) gs.length cap)
        have BF := (BV.setCell (p := ⟨w.heap.size + 1 + 1, 0, none⟩) (by show w.heap.size ≤ w.heap.size + 1 + 1; omega) (.int .i64 m)).setCell (p := ⟨w.heap.size + 1 + 1, 1, none⟩) (by show w.heap.size ≤ w.heap.size + 1 + 1; omega) (.slice (some ⟨b', off', none⟩) gs.length cap)
        go_wp2_with fail
        exact bodyPost_ret (v := .tuple #[.agg #[.int .i64 m, .slice (some ⟨b', off', none⟩) gs.length cap], .int .i64 (2 + m + k)]) (by simp [results, Try.results79, go_sem, r0, r1]) rfl ⟨gs, _, _, _, rfl, OF, .inl rfl, by omega, by omega, fun q e => .inl e, BF⟩
      · rcases gate_ne hxy with rfl | ⟨rfl, q1, q2⟩ | ⟨rfl, rfl, q1, q2⟩
        all_goals
          clear hxy
          go_wp2_with fail
          go_quiet (fail)
          go_wp2_with fail
          exact ⟨⟨k + 1, _, by go_num, by omega, rfl⟩, by simp [intOf]; omega⟩
    · obtain rfl : k = gs.length := by omega
      clear hk hlt
      go_upto_region 8 with fail
      have hs8 : (W.drewN n).heap.size = w.heap.size + 3 := hs
      have A2V := A2.drewN n; have A3V := A3.drewN n; have A4V := A4.drewN n
      have BV := below_drewN BW n
      have OV : OwnG (W.drewN n) B (.slice a gs.length cap) gs := OW.out
      obtain ⟨V, hV⟩ : ∃ V, V = W.drewN n := ⟨_, rfl⟩
      rw [← hV] at hs8 A2V A3V A4V BV OV ⊢
      clear hV hr OW A2 A3 A4 BW hs C0 C1 D0 D1 D2 hne4
      rcases nilOrB_own OV with e1 | ⟨bb, len1, cap1, e1⟩
      · simp only [Value.slice.injEq] at e1
        obtain ⟨rfl, e2, rfl⟩ := e1
        obtain rfl : gs = [] := List.length_eq_zero_iff.1 e2
        rw [List.length_nil] at *
        have sK : ∀ w', Below V.heap.size V w' → (fun wx : World => (wx.cell? ⟨w.heap.size, 1, none⟩ = some (.slice none 0 0)) ∧ wx.cell? ⟨w.heap.size + 1, 0, none⟩ = some (.bool x0) ∧ wx.cell? ⟨w.heap.size + 1, 1, none⟩ = some (.int .i64 x1) ∧ wx.cell? ⟨w.heap.size + 1, 2, none⟩ = some (.int .i64 x2)) w' := fun w' hb => (by obtain ⟨q0, q1, _⟩ := (A2V.keep hb).cells; obtain ⟨q2, q3, q4, _⟩ := (A3V.keep hb).cells; exact ⟨q1, q2, q3, q4⟩)
        refine wp_region_noPanic ?_
        refine wp_regionS 8 (fun wx : World => (wx.cell? ⟨w.heap.size, 1, none⟩ = some (.slice none 0 0)) ∧ wx.cell? ⟨w.heap.size + 1, 0, none⟩ = some (.bool x0) ∧ wx.cell? ⟨w.heap.size + 1, 1, none⟩ = some (.int .i64 x1) ∧ wx.cell? ⟨w.heap.size + 1, 2, none⟩ = some (.int .i64 x2)) (by kernel_rfl) (sK _ ((Below.refl _ _).drew)) (fun hHeld => ?_)
        refine anyS_take (i := 1) (oi := { dst := some 33, op := Go.Op.fieldAddr 39 (Go.Operand.tmp 2) 1, type := 0, pos := _, after := #[], guard := none }) (v := ?_) rfl (by kernel_rfl) (by kernel_rfl) (by kernel_rfl) (by kernel_rfl) (by kernel_rfl) (fun _ _ _ h => h) (Or.inl ⟨by rfl, ?_⟩) hHeld ?_
        rotate_left
        · (intro wq hSw; (try dsimp only at hSw); (try go_simp); (try with_reducible rfl))
        try simp only [Act.put, List.setIfInBounds_toArray, List.set_cons_zero, List.set_cons_succ]
        refine anyS_take (i := 2) (oi := { dst := some 34, op := Go.Op.load 37 (Go.Operand.tmp 33), type := 37, pos := _, after := #[{ on := 1, ground := Go.Ground.data }], guard := none }) (v := ?_) rfl (by kernel_rfl) (by kernel_rfl) (by kernel_rfl) (by kernel_rfl) (by kernel_rfl) (fun _ _ _ h => h) (Or.inl ⟨by rfl, ?_⟩) hHeld ?_
        rotate_left
        · (intro wq hSw; (try dsimp only at hSw); (try go_simp); (try with_reducible rfl))
        try simp only [Act.put, List.setIfInBounds_toArray, List.set_cons_zero, List.set_cons_succ]
        refine anyS_take (i := 4) (oi := { dst := some 36, op := Go.Op.load 47 (Go.Operand.tmp 3), type := 47, pos := _, after := #[], guard := none }) (v := ?_) rfl (by kernel_rfl) (by kernel_rfl) (by kernel_rfl) (by kernel_rfl) (by kernel_rfl) (fun _ _ _ h => h) (Or.inl ⟨by rfl, ?_⟩) hHeld ?_
        rotate_left
        · (intro wq hSw; (try dsimp only at hSw); (try go_simp); (try with_reducible rfl))
        try simp only [Act.put, List.setIfInBounds_toArray, List.set_cons_zero, List.set_cons_succ]
        refine DS.dia_0 V 47 3 (gflat []) [.bool x0, .int .i64 x1, .int .i64 x2] 0 1 (.cells #[.bool x0, .int .i64 x1, .int .i64 x2] 47) (fun k => .slice (some ⟨k, 0, none⟩) 1 1) (iB := 0) (iD := 3) (iE := 5) (iF := 6) (yB := 32) (yD := 35) (yE := 37) (yF := 38) (oB := { dst := some 32, op := Go.Op.buildSlice 37 0 #[], type := 37, pos := _, after := #[], guard := none }) (oD := { dst := some 35, op := Go.Op.call { callee := Go.Callee.builtin Go.Builtin.append, args := #[Go.Operand.tmp 32, Go.Operand.tmp 34], argTypes := #[37, 37] }, type := 37, pos := _, after := #[{ on := 0, ground := Go.Ground.data }, { on := 2, ground := Go.Ground.data }], guard := none }) (oE := { dst := some 37, op := Go.Op.buildSlice 37 1 #[(0, Go.Operand.tmp 36)], type := 37, pos := _, after := #[{ on := 4, ground := Go.Ground.data }], guard := none }) (oF := { dst := some 38, op := Go.Op.call { callee := Go.Callee.builtin Go.Builtin.append, args := #[Go.Operand.tmp 35, Go.Operand.tmp 37], argTypes := #[37, 37] }, type := 37, pos := _, after := #[{ on := 3, ground := Go.Ground.data }, { on := 5, ground := Go.Ground.data }, { on := 3, ground := Go.Ground.chain }], guard := none }) (N := 2) rfl rfl rfl rfl (by kernel_rfl) (by decide) ⟨of_decide_eq_true rfl, of_decide_eq_true rfl, of_decide_eq_true rfl, of_decide_eq_true rfl⟩ (by decide) rfl sK ?hB ?hE ?hD ?hF ?h0 ((Below.refl _ _).drew)
        case hB => intro a w K h; go_simp; exact h
        case hE => intro a w K hag h; have e : a.tmps[36]?.getD undef = .agg #[.bool x0, .int .i64 x1, .int .i64 x2] := (by (have := hag 36 (by decide) (by decide) (by decide) (by decide); rw [← Array.getD_eq_getD_getElem?]; exact this)); go_simp; (try simp only [e]); (try go_simp); exact h
        case hD =>
          intro a w K kb hag e1 hb own h
          refine step_append_none _ rfl (.tmp 32) (.tmp 34) _ rfl V.heap.size 47 i0 3 Try.underlying37 hi (.slice (some ⟨kb, 0, none⟩) 0 0) 0 [] e1 own (hag 34 (by decide) (by decide) (by decide) (by decide)) ?_
          exact h _ _ own (World.grownBy.refl _ _) (.inl rfl)
        case hF =>
          intro a w K ke vd hag e1 e2 hb own hk h
          refine step_append_lies _ rfl (.tmp 35) (.tmp 37) _ rfl V.heap.size 47 i0 (.agg #[.bool false, .int .i64 0, .int .i64 0]) 3 24 Try.underlying37 hi hz0 hz1 hz2 rfl (by omega) vd 0 (gflat []) e1 own ⟨ke, 0, none⟩ 1 1 [.bool x0, .int .i64 x1, .int .i64 x2] e2 rfl (World.news_of_block hk) (by simp [Value.oneCell']) (by omega) (by unfold maxLen; omega) (by omega) hb.size _ rfl ?_
          intro b2 cap2 z2 o1 o2 o3 o4
          exact h _ _ o1 o2 (o3.elim (fun e => .inl e.symm) (fun e => .inr (by rw [e]; rfl)))
        case h0 =>
          intro kb ke vd vf w2 hb own hHeld
          obtain ⟨g5, c5, rfl, hg5, _⟩ := own.form (by omega)
          have qz := A2V.keep hb
          obtain ⟨qz0, qz1, qzl⟩ := qz.cells
          obtain ⟨qf0, qf1⟩ := qz.frozen
          try simp only [Act.put, List.setIfInBounds_toArray, List.set_cons_zero, List.set_cons_succ]
          refine anyS_take (i := 7) (oi := { dst := some 39, op := Go.Op.fieldAddr 39 (Go.Operand.tmp 2) 1, type := 0, pos := _, after := #[{ on := 0, ground := Go.Ground.phase }, { on := 1, ground := Go.Ground.phase }, { on := 2, ground := Go.Ground.phase }, { on := 3, ground := Go.Ground.phase }, { on := 4, ground := Go.Ground.phase }, { on := 5, ground := Go.Ground.phase }, { on := 6, ground := Go.Ground.phase }], guard := none }) (v := ?_) rfl (by kernel_rfl) (by kernel_rfl) (by kernel_rfl) (by kernel_rfl) (by kernel_rfl) (fun _ _ _ h => h) (Or.inl ⟨by rfl, ?_⟩) hHeld ?_
          rotate_left
          · (intro wq hSw; (try dsimp only at hSw); (try go_simp); (try with_reducible rfl))
          try simp only [Act.put, List.setIfInBounds_toArray, List.set_cons_zero, List.set_cons_succ]
          refine anyS_ready (rs := [8]) (by kernel_rfl) (by simp) ?_
          refine readyS_last (o := { dst := none, op := Go.Op.store 37 (Go.Operand.tmp 39) (Go.Operand.tmp 38), type := 0, pos := _, after := #[{ on := 7, ground := Go.Ground.data }, { on := 6, ground := Go.Ground.data }, { on := 6, ground := Go.Ground.chain }, { on := 0, ground := Go.Ground.phase }, { on := 1, ground := Go.Ground.phase }, { on := 2, ground := Go.Ground.phase }, { on := 3, ground := Go.Ground.phase }, { on := 4, ground := Go.Ground.phase }, { on := 5, ground := Go.Ground.phase }, { on := 6, ground := Go.Ground.phase }], guard := none }) rfl (by kernel_rfl) (fun KK hKK => ?_) (readyS_nil)
          go_simp
          refine hKK.out _ _ ?_
          clear hKK KK hHeld
          have hHeld := trivial
          try simp only [Act.put, List.setIfInBounds_toArray, List.set_cons_zero, List.set_cons_succ]
          refine anyS_done (by kernel_rfl) ?_ _
          refine NoPanic.normal ?_
          have own3 := Go.RowKit.ownsRow_setCell_below own (a := ⟨w.heap.size, 1, none⟩) (by show w.heap.size < _; omega) (.slice (some ⟨g5, 0, none⟩) 1 c5)
          have A2n := qz.set1 (.slice (some ⟨g5, 0, none⟩) 1 c5)
          have A4n := (A4V.keep hb).set_other (p := ⟨w.heap.size, 1, none⟩) (z := (.slice (some ⟨g5, 0, none⟩) 1 c5)) (by simp; omega)
          have B3 := (below_two BV hb).setCell (p := ⟨w.heap.size, 1, none⟩) (Nat.le_refl _) (.slice (some ⟨g5, 0, none⟩) 1 c5)
          obtain ⟨V3, hV3⟩ : ∃ V3, V3 = w2.setCell ⟨w.heap.size, 1, none⟩ (.slice (some ⟨g5, 0, none⟩) 1 c5) := ⟨_, rfl⟩
          clear qz qz0 qz1 qzl qf0 qf1
          go_upto_region 9 with fail
          rw [← hV3] at own3 A2n A4n B3 ⊢
          clear hV3 hb own sK hHeld A2V A3V A4V BV OV
          have hw1 : IntKind.i64.wrap (1 + m) = 1 + m := IntWalk.i64_in _ (by omega)
          have hw2 : IntKind.i64.wrap (1 + m + 1) = 1 + m + 1 := IntWalk.i64_in _ (by omega)
          replace A2n := A2n.drew; replace A4n := A4n.drew; replace B3 := B3.drew; replace own3 := ownsRow_drew own3
          obtain ⟨V4, hV4⟩ : ∃ V4, V4 = V3.drew := ⟨_, rfl⟩
          refine wp_region_noPanic ?_
          refine wp_region_held_drew (S := fun wx : World => wx.cell? ⟨w.heap.size, 0, none⟩ = some (.int .i64 m) ∧ wx.cell? ⟨w.heap.size, 1, none⟩ = some ((.slice (some ⟨g5, 0, none⟩) 1 c5))) (by kernel_rfl) (⟨A2n.cells.1, A2n.cells.2.1⟩) (fun hHeld => ?_)
          rw [← hV4] at hHeld A2n A4n B3 own3 ⊢
          have hs3 : w.heap.size + 1 + 1 < V4.heap.size := A4n.lt
          clear hV4
          obtain ⟨F0, F1⟩ := A4n.frozen
          obtain ⟨E0, E1, _⟩ := A4n.cells
          refine wpAnyH_take (i := 0) (oi := { dst := some 40, op := Go.Op.load 39 (Go.Operand.tmp 2), type := 39, pos := _, after := #[], guard := none }) (v := ?_) rfl (by kernel_rfl) (by kernel_rfl) (by kernel_rfl) (fun _ _ _ h => h) (Or.inl ⟨by rfl, ?_⟩) hHeld ?_
          rotate_left
          · (intro wq hSw; (try dsimp only at hSw); (try go_simp); (try with_reducible rfl))
          try simp only [Act.put, List.setIfInBounds_toArray, List.set_cons_zero, List.set_cons_succ]
          refine wpAnyH_take (i := 1) (oi := { dst := some 41, op := Go.Op.fieldAddr 39 (Go.Operand.tmp 2) 0, type := 0, pos := _, after := #[{ on := 8, ground := Go.Ground.gcOnly Go.Departure.lateStores }], guard := none }) (v := ?_) rfl (by kernel_rfl) (by kernel_rfl) (by kernel_rfl) (fun _ _ _ h => h) (Or.inl ⟨by rfl, ?_⟩) hHeld ?_
          rotate_left
          · (intro wq hSw; (try dsimp only at hSw); (try go_simp); (try with_reducible rfl))
          try simp only [Act.put, List.setIfInBounds_toArray, List.set_cons_zero, List.set_cons_succ]
          refine wpAnyH_take (i := 2) (oi := { dst := some 42, op := Go.Op.load 3 (Go.Operand.tmp 41), type := 3, pos := _, after := #[{ on := 1, ground := Go.Ground.data }, { on := 8, ground := Go.Ground.gcOnly Go.Departure.lateStores }], guard := none }) (v := ?_) rfl (by kernel_rfl) (by kernel_rfl) (by kernel_rfl) (fun _ _ _ h => h) (Or.inl ⟨by rfl, ?_⟩) hHeld ?_
          rotate_left
          · (intro wq hSw; (try dsimp only at hSw); (try go_simp); (try with_reducible rfl))
          try simp only [Act.put, List.setIfInBounds_toArray, List.set_cons_zero, List.set_cons_succ]
          refine wpAnyH_take (i := 3) (oi := { dst := some 43, op := Go.Op.binOp Go.BinOp.add 3 (Go.Operand.const (Go.Value.int Go.IntKind.i64 1)) (Go.Operand.tmp 42) 3, type := 3, pos := _, after := #[{ on := 2, ground := Go.Ground.data }, { on := 8, ground := Go.Ground.gcOnly Go.Departure.lateStores }], guard := none }) (v := ?_) rfl (by kernel_rfl) (by kernel_rfl) (by kernel_rfl) (fun _ _ _ h => h) (Or.inl ⟨by rfl, ?_⟩) hHeld ?_
          rotate_left
          · (intro wq hSw; (try dsimp only at hSw); (try go_simp); (try with_reducible rfl))
          try simp only [Act.put, List.setIfInBounds_toArray, List.set_cons_zero, List.set_cons_succ]
          refine wpAnyH_take (i := 4) (oi := { dst := some 44, op := Go.Op.fieldAddr 39 (Go.Operand.tmp 2) 1, type := 0, pos := _, after := #[], guard := none }) (v := ?_) rfl (by kernel_rfl) (by kernel_rfl) (by kernel_rfl) (fun _ _ _ h => h) (Or.inl ⟨by rfl, ?_⟩) hHeld ?_
          rotate_left
          · (intro wq hSw; (try dsimp only at hSw); (try go_simp); (try with_reducible rfl))
          try simp only [Act.put, List.setIfInBounds_toArray, List.set_cons_zero, List.set_cons_succ]
          refine wpAnyH_take (i := 5) (oi := { dst := some 45, op := Go.Op.load 37 (Go.Operand.tmp 44), type := 37, pos := _, after := #[{ on := 4, ground := Go.Ground.data }], guard := none }) (v := ?_) rfl (by kernel_rfl) (by kernel_rfl) (by kernel_rfl) (fun _ _ _ h => h) (Or.inl ⟨by rfl, ?_⟩) hHeld ?_
          rotate_left
          · (intro wq hSw; (try dsimp only at hSw); (try go_simp); (try with_reducible rfl))
          try simp only [Act.put, List.setIfInBounds_toArray, List.set_cons_zero, List.set_cons_succ]
          refine wpAnyH_take (i := 6) (oi := { dst := some 46, op := Go.Op.call { callee := Go.Callee.builtin Go.Builtin.len, args := #[Go.Operand.tmp 45], argTypes := #[37] }, type := 3, pos := _, after := #[{ on := 5, ground := Go.Ground.data }], guard := none }) (v := ?_) rfl (by kernel_rfl) (by kernel_rfl) (by kernel_rfl) (fun _ _ _ h => h) (Or.inl ⟨by rfl, ?_⟩) hHeld ?_
          rotate_left
          · (intro wq hSw; (try dsimp only at hSw); (try go_simp); (try with_reducible rfl))
          try simp only [Act.put, List.setIfInBounds_toArray, List.set_cons_zero, List.set_cons_succ]
          refine wpAnyH_take (i := 7) (oi := { dst := some 47, op := Go.Op.binOp Go.BinOp.add 3 (Go.Operand.tmp 43) (Go.Operand.tmp 46) 3, type := 3, pos := _, after := #[{ on := 3, ground := Go.Ground.data }, { on := 6, ground := Go.Ground.data }, { on := 8, ground := Go.Ground.gcOnly Go.Departure.lateStores }], guard := none }) (v := ?_) rfl (by kernel_rfl) (by kernel_rfl) (by kernel_rfl) (fun _ _ _ h => h) (Or.inl ⟨by rfl, ?_⟩) hHeld ?_
          rotate_left
          · (intro wq hSw; (try dsimp only at hSw); (try go_simp); (try with_reducible rfl))
          try simp only [Act.put, List.setIfInBounds_toArray, List.set_cons_zero, List.set_cons_succ]
          have A2s := ((A2n.set_other (p := ⟨w.heap.size + 1 + 1, 0, none⟩) (z := .int .i64 m) (by simp; omega)).set_other (p := ⟨w.heap.size + 1 + 1, 1, none⟩) (z := (.slice (some ⟨g5, 0, none⟩) 1 c5)) (by simp; omega))
          obtain ⟨c0, c1, _⟩ := A2s.cells
          refine wpAnyH_ready (rs := [8]) (by kernel_rfl) (by simp) ?_
          refine AllReadyH.cons (o := { dst := none, op := Go.Op.store 39 (Go.Operand.tmp 4) (Go.Operand.tmp 40), type := 0, pos := _, after := #[{ on := 0, ground := Go.Ground.data }, { on := 0, ground := Go.Ground.phase }, { on := 1, ground := Go.Ground.textOnly Go.Departure.lateStores }, { on := 2, ground := Go.Ground.textOnly Go.Departure.lateStores }, { on := 3, ground := Go.Ground.textOnly Go.Departure.lateStores }, { on := 4, ground := Go.Ground.textOnly Go.Departure.lateStores }, { on := 5, ground := Go.Ground.textOnly Go.Departure.lateStores }, { on := 6, ground := Go.Ground.textOnly Go.Departure.lateStoresUnsure }, { on := 7, ground := Go.Ground.textOnly Go.Departure.lateStores }], guard := none }) rfl (fun KK hKK => ?_) AllReadyH.nil
          go_simp
          refine hKK.out _ _ (⟨c0, c1⟩) (fun hHeld => ?_)
          clear hKK KK
          try simp only [Act.put, List.setIfInBounds_toArray, List.set_cons_zero, List.set_cons_succ]
          refine wpAnyH_take (i := 9) (oi := { dst := some 5, op := Go.Op.assign (Go.Operand.tmp 47), type := 3, pos := _, after := #[{ on := 7, ground := Go.Ground.data }, { on := 8, ground := Go.Ground.chain }, { on := 0, ground := Go.Ground.phase }, { on := 1, ground := Go.Ground.phase }, { on := 2, ground := Go.Ground.phase }, { on := 3, ground := Go.Ground.phase }, { on := 4, ground := Go.Ground.phase }, { on := 5, ground := Go.Ground.phase }, { on := 6, ground := Go.Ground.phase }, { on := 7, ground := Go.Ground.phase }, { on := 8, ground := Go.Ground.phase }], guard := none }) (v := ?_) rfl (by kernel_rfl) (by kernel_rfl) (by kernel_rfl) (fun _ _ _ h => h) (Or.inl ⟨by rfl, ?_⟩) hHeld ?_
          rotate_left
          · (intro wq hSw; (try dsimp only at hSw); (try go_simp); (try with_reducible rfl))
          try simp only [Act.put, List.setIfInBounds_toArray, List.set_cons_zero, List.set_cons_succ]
          refine wpAnyH_done (by kernel_rfl) ?_ _
          refine NoPanic.normal ?_
          have A4f := (A4n.set0 (.int .i64 m)).set1 ((.slice (some ⟨g5, 0, none⟩) 1 c5))
          obtain ⟨r0, r1, _⟩ := A4f.cells
          have OF := Go.RowKit.ownsRow_setCell_below (Go.RowKit.ownsRow_setCell_below own3 (a := ⟨w.heap.size + 1 + 1, 0, none⟩) (by show w.heap.size + 1 + 1 < _; omega) (.int .i64 m)) (a := ⟨w.heap.size + 1 + 1, 1, none⟩) (by show w.heap.size + 1 + 1 < _; omega) ((.slice (some ⟨g5, 0, none⟩) 1 c5))
          have BF := (B3.setCell (p := ⟨w.heap.size + 1 + 1, 0, none⟩) (by show w.heap.size ≤ w.heap.size + 1 + 1; omega) (.int .i64 m)).setCell (p := ⟨w.heap.size + 1 + 1, 1, none⟩) (by show w.heap.size ≤ w.heap.size + 1 + 1; omega) ((.slice (some ⟨g5, 0, none⟩) 1 c5))
          have OF2 := putSnoc (g := (x0, x1, x2)) (gs := []) (Go.Joins.ownsRow_le OF (by omega : B ≤ V.heap.size))
          go_wp2_with fail
          exact bodyPost_ret (v := .tuple #[.agg #[.int .i64 m, (.slice (some ⟨g5, 0, none⟩) 1 c5)], .int .i64 (1 + m + 1)]) (by simp [results, Try.results79, go_sem, r0, r1]) rfl ⟨[] ++ [(x0, x1, x2)], _, _, _, by rw [snoc_len]; rfl, by rw [snoc_len]; exact OF2, .inr rfl, by omega, by omega, fun q e => .inr (by have := (OF.lt q (by rw [snoc_len] at e; exact e)).1; omega), BF⟩
      · simp only [Value.slice.injEq] at e1
        obtain ⟨rfl, rfl, rfl⟩ := e1
        have hgt := OV.gates.row
        have hnew : Hid (∀ w', Below V.heap.size V w' → ∀ j u, (gflat gs)[j]? = some u → w'.cell? ((⟨bb, 0, none⟩ : Addr).add j) = some u) := fun w' hb => RowS.news3 (hgt.below hb)
        have hone := Lib.hid (gflat_one gs)
        have hlen := Lib.hid (gflat_len gs)
        clear hgt
        have sK : ∀ w', Below V.heap.size V w' → (fun wx : World => (wx.cell? ⟨w.heap.size, 1, none⟩ = some (.slice (some ⟨bb, 0, none⟩) gs.length cap)) ∧ wx.cell? ⟨w.heap.size + 1, 0, none⟩ = some (.bool x0) ∧ wx.cell? ⟨w.heap.size + 1, 1, none⟩ = some (.int .i64 x1) ∧ wx.cell? ⟨w.heap.size + 1, 2, none⟩ = some (.int .i64 x2)) w' := fun w' hb => (by obtain ⟨q0, q1, _⟩ := (A2V.keep hb).cells; obtain ⟨q2, q3, q4, _⟩ := (A3V.keep hb).cells; exact ⟨q1, q2, q3, q4⟩)
        refine wp_region_noPanic ?_
        refine wp_regionS 8 (fun wx : World => (wx.cell? ⟨w.heap.size, 1, none⟩ = some (.slice (some ⟨bb, 0, none⟩) gs.length cap)) ∧ wx.cell? ⟨w.heap.size + 1, 0, none⟩ = some (.bool x0) ∧ wx.cell? ⟨w.heap.size + 1, 1, none⟩ = some (.int .i64 x1) ∧ wx.cell? ⟨w.heap.size + 1, 2, none⟩ = some (.int .i64 x2)) (by kernel_rfl) (sK _ ((Below.refl _ _).drew)) (fun hHeld => ?_)
        refine anyS_take (i := 1) (oi := { dst := some 33, op := Go.Op.fieldAddr 39 (Go.Operand.tmp 2) 1, type := 0, pos := _, after := #[], guard := none }) (v := ?_) rfl (by kernel_rfl) (by kernel_rfl) (by kernel_rfl) (by kernel_rfl) (by kernel_rfl) (fun _ _ _ h => h) (Or.inl ⟨by rfl, ?_⟩) hHeld ?_
        rotate_left
        · (intro wq hSw; (try dsimp only at hSw); (try go_simp); (try with_reducible rfl))
        try simp only [Act.put, List.setIfInBounds_toArray, List.set_cons_zero, List.set_cons_succ]
        refine anyS_take (i := 2) (oi := { dst := some 34, op := Go.Op.load 37 (Go.Operand.tmp 33), type := 37, pos := _, after := #[{ on := 1, ground := Go.Ground.data }], guard := none }) (v := ?_) rfl (by kernel_rfl) (by kernel_rfl) (by kernel_rfl) (by kernel_rfl) (by kernel_rfl) (fun _ _ _ h => h) (Or.inl ⟨by rfl, ?_⟩) hHeld ?_
        rotate_left
        · (intro wq hSw; (try dsimp only at hSw); (try go_simp); (try with_reducible rfl))
        try simp only [Act.put, List.setIfInBounds_toArray, List.set_cons_zero, List.set_cons_succ]
        refine anyS_take (i := 4) (oi := { dst := some 36, op := Go.Op.load 47 (Go.Operand.tmp 3), type := 47, pos := _, after := #[], guard := none }) (v := ?_) rfl (by kernel_rfl) (by kernel_rfl) (by kernel_rfl) (by kernel_rfl) (by kernel_rfl) (fun _ _ _ h => h) (Or.inl ⟨by rfl, ?_⟩) hHeld ?_
        rotate_left
        · (intro wq hSw; (try dsimp only at hSw); (try go_simp); (try with_reducible rfl))
        try simp only [Act.put, List.setIfInBounds_toArray, List.set_cons_zero, List.set_cons_succ]
        refine DS.dia_0 V 47 3 (gflat gs) [.bool x0, .int .i64 x1, .int .i64 x2] gs.length (gs.length + 1) (.cells #[.bool x0, .int .i64 x1, .int .i64 x2] 47) (fun k => .slice (some ⟨k, 0, none⟩) 1 1) (iB := 0) (iD := 3) (iE := 5) (iF := 6) (yB := 32) (yD := 35) (yE := 37) (yF := 38) (oB := { dst := some 32, op := Go.Op.buildSlice 37 0 #[], type := 37, pos := _, after := #[], guard := none }) (oD := { dst := some 35, op := Go.Op.call { callee := Go.Callee.builtin Go.Builtin.append, args := #[Go.Operand.tmp 32, Go.Operand.tmp 34], argTypes := #[37, 37] }, type := 37, pos := _, after := #[{ on := 0, ground := Go.Ground.data }, { on := 2, ground := Go.Ground.data }], guard := none }) (oE := { dst := some 37, op := Go.Op.buildSlice 37 1 #[(0, Go.Operand.tmp 36)], type := 37, pos := _, after := #[{ on := 4, ground := Go.Ground.data }], guard := none }) (oF := { dst := some 38, op := Go.Op.call { callee := Go.Callee.builtin Go.Builtin.append, args := #[Go.Operand.tmp 35, Go.Operand.tmp 37], argTypes := #[37, 37] }, type := 37, pos := _, after := #[{ on := 3, ground := Go.Ground.data }, { on := 5, ground := Go.Ground.data }, { on := 3, ground := Go.Ground.chain }], guard := none }) (N := 2) rfl rfl rfl rfl (by kernel_rfl) (by decide) ⟨of_decide_eq_true rfl, of_decide_eq_true rfl, of_decide_eq_true rfl, of_decide_eq_true rfl⟩ (by decide) rfl sK ?hB ?hE ?hD ?hF ?h0 ((Below.refl _ _).drew)
        case hB => intro a w K h; go_simp; exact h
        case hE => intro a w K hag h; have e : a.tmps[36]?.getD undef = .agg #[.bool x0, .int .i64 x1, .int .i64 x2] := (by (have := hag 36 (by decide) (by decide) (by decide) (by decide); rw [← Array.getD_eq_getD_getElem?]; exact this)); go_simp; (try simp only [e]); (try go_simp); exact h
        case hD =>
          intro a w K kb hag e1 hb own h
          refine step_append_at _ rfl (.tmp 32) (.tmp 34) _ rfl V.heap.size 47 i0 (.agg #[.bool false, .int .i64 0, .int .i64 0]) 3 24 Try.underlying37 hi hz0 hz1 hz2 rfl (by omega) (.slice (some ⟨kb, 0, none⟩) 0 0) 0 [] e1 own ⟨bb, 0, none⟩ gs.length cap (gflat gs) (hag 34 (by decide) (by decide) (by decide) (by decide)) hlen.out (hnew.out _ hb) hone.out (by unfold maxLen; omega) (by omega) hb.size ?_
          intro v' w' o1 o2 o3
          rw [Nat.zero_add] at o1
          exact h v' w' o1 o2 o3
        case hF =>
          intro a w K ke vd hag e1 e2 hb own hk h
          refine step_append_lies _ rfl (.tmp 35) (.tmp 37) _ rfl V.heap.size 47 i0 (.agg #[.bool false, .int .i64 0, .int .i64 0]) 3 24 Try.underlying37 hi hz0 hz1 hz2 rfl (by omega) vd gs.length (gflat gs) e1 own ⟨ke, 0, none⟩ 1 1 [.bool x0, .int .i64 x1, .int .i64 x2] e2 rfl (World.news_of_block hk) (by simp [Value.oneCell']) (by omega) (by unfold maxLen; omega) (by omega) hb.size _ rfl ?_
          intro b2 cap2 z2 o1 o2 o3 o4
          exact h _ _ o1 o2 (o3.elim (fun e => .inl e.symm) (fun e => .inr (by rw [e]; rfl)))
        case h0 =>
          intro kb ke vd vf w2 hb own hHeld
          obtain ⟨g5, c5, rfl, hg5, _⟩ := own.form (by omega)
          have qz := A2V.keep hb
          obtain ⟨qz0, qz1, qzl⟩ := qz.cells
          obtain ⟨qf0, qf1⟩ := qz.frozen
          try simp only [Act.put, List.setIfInBounds_toArray, List.set_cons_zero, List.set_cons_succ]
          refine anyS_take (i := 7) (oi := { dst := some 39, op := Go.Op.fieldAddr 39 (Go.Operand.tmp 2) 1, type := 0, pos := _, after := #[{ on := 0, ground := Go.Ground.phase }, { on := 1, ground := Go.Ground.phase }, { on := 2, ground := Go.Ground.phase }, { on := 3, ground := Go.Ground.phase }, { on := 4, ground := Go.Ground.phase }, { on := 5, ground := Go.Ground.phase }, { on := 6, ground := Go.Ground.phase }], guard := none }) (v := ?_) rfl (by kernel_rfl) (by kernel_rfl) (by kernel_rfl) (by kernel_rfl) (by kernel_rfl) (fun _ _ _ h => h) (Or.inl ⟨by rfl, ?_⟩) hHeld ?_
          rotate_left
          · (intro wq hSw; (try dsimp only at hSw); (try go_simp); (try with_reducible rfl))
          try simp only [Act.put, List.setIfInBounds_toArray, List.set_cons_zero, List.set_cons_succ]
          refine anyS_ready (rs := [8]) (by kernel_rfl) (by simp) ?_
          refine readyS_last (o := { dst := none, op := Go.Op.store 37 (Go.Operand.tmp 39) (Go.Operand.tmp 38), type := 0, pos := _, after := #[{ on := 7, ground := Go.Ground.data }, { on := 6, ground := Go.Ground.data }, { on := 6, ground := Go.Ground.chain }, { on := 0, ground := Go.Ground.phase }, { on := 1, ground := Go.Ground.phase }, { on := 2, ground := Go.Ground.phase }, { on := 3, ground := Go.Ground.phase }, { on := 4, ground := Go.Ground.phase }, { on := 5, ground := Go.Ground.phase }, { on := 6, ground := Go.Ground.phase }], guard := none }) rfl (by kernel_rfl) (fun KK hKK => ?_) (readyS_nil)
          go_simp
          refine hKK.out _ _ ?_
          clear hKK KK hHeld
          have hHeld := trivial
          try simp only [Act.put, List.setIfInBounds_toArray, List.set_cons_zero, List.set_cons_succ]
          refine anyS_done (by kernel_rfl) ?_ _
          refine NoPanic.normal ?_
          have own3 := Go.RowKit.ownsRow_setCell_below own (a := ⟨w.heap.size, 1, none⟩) (by show w.heap.size < _; omega) (.slice (some ⟨g5, 0, none⟩) (gs.length + 1) c5)
          have A2n := qz.set1 (.slice (some ⟨g5, 0, none⟩) (gs.length + 1) c5)
          have A4n := (A4V.keep hb).set_other (p := ⟨w.heap.size, 1, none⟩) (z := (.slice (some ⟨g5, 0, none⟩) (gs.length + 1) c5)) (by simp; omega)
          have B3 := (below_two BV hb).setCell (p := ⟨w.heap.size, 1, none⟩) (Nat.le_refl _) (.slice (some ⟨g5, 0, none⟩) (gs.length + 1) c5)
          obtain ⟨V3, hV3⟩ : ∃ V3, V3 = w2.setCell ⟨w.heap.size, 1, none⟩ (.slice (some ⟨g5, 0, none⟩) (gs.length + 1) c5) := ⟨_, rfl⟩
          clear qz qz0 qz1 qzl qf0 qf1
          go_upto_region 9 with fail
          rw [← hV3] at own3 A2n A4n B3 ⊢
          clear hV3 hb own sK hHeld A2V A3V A4V BV OV
          have hw1 : IntKind.i64.wrap (1 + m) = 1 + m := IntWalk.i64_in _ (by omega)
          have hw2 : IntKind.i64.wrap (1 + m + ((gs.length : Int) + 1)) = 1 + m + ((gs.length : Int) + 1) := IntWalk.i64_in _ (by omega)
          replace A2n := A2n.drew; replace A4n := A4n.drew; replace B3 := B3.drew; replace own3 := ownsRow_drew own3
          obtain ⟨V4, hV4⟩ : ∃ V4, V4 = V3.drew := ⟨_, rfl⟩
          refine wp_region_noPanic ?_
          refine wp_region_held_drew (S := fun wx : World => wx.cell? ⟨w.heap.size, 0, none⟩ = some (.int .i64 m) ∧ wx.cell? ⟨w.heap.size, 1, none⟩ = some ((.slice (some ⟨g5, 0, none⟩) (gs.length + 1) c5))) (by kernel_rfl) (⟨A2n.cells.1, A2n.cells.2.1⟩) (fun hHeld => ?_)
          rw [← hV4] at hHeld A2n A4n B3 own3 ⊢
          have hs3 : w.heap.size + 1 + 1 < V4.heap.size := A4n.lt
          clear hV4
          obtain ⟨F0, F1⟩ := A4n.frozen
          obtain ⟨E0, E1, _⟩ := A4n.cells
          refine wpAnyH_take (i := 0) (oi := { dst := some 40, op := Go.Op.load 39 (Go.Operand.tmp 2), type := 39, pos := _, after := #[], guard := none }) (v := ?_) rfl (by kernel_rfl) (by kernel_rfl) (by kernel_rfl) (fun _ _ _ h => h) (Or.inl ⟨by rfl, ?_⟩) hHeld ?_
          rotate_left
          · (intro wq hSw; (try dsimp only at hSw); (try go_simp); (try with_reducible rfl))
          try simp only [Act.put, List.setIfInBounds_toArray, List.set_cons_zero, List.set_cons_succ]
          refine wpAnyH_take (i := 1) (oi := { dst := some 41, op := Go.Op.fieldAddr 39 (Go.Operand.tmp 2) 0, type := 0, pos := _, after := #[{ on := 8, ground := Go.Ground.gcOnly Go.Departure.lateStores }], guard := none }) (v := ?_) rfl (by kernel_rfl) (by kernel_rfl) (by kernel_rfl) (fun _ _ _ h => h) (Or.inl ⟨by rfl, ?_⟩) hHeld ?_
          rotate_left
          · (intro wq hSw; (try dsimp only at hSw); (try go_simp); (try with_reducible rfl))
          try simp only [Act.put, List.setIfInBounds_toArray, List.set_cons_zero, List.set_cons_succ]
          refine wpAnyH_take (i := 2) (oi := { dst := some 42, op := Go.Op.load 3 (Go.Operand.tmp 41), type := 3, pos := _, after := #[{ on := 1, ground := Go.Ground.data }, { on := 8, ground := Go.Ground.gcOnly Go.Departure.lateStores }], guard := none }) (v := ?_) rfl (by kernel_rfl) (by kernel_rfl) (by kernel_rfl) (fun _ _ _ h => h) (Or.inl ⟨by rfl, ?_⟩) hHeld ?_
          rotate_left
          · (intro wq hSw; (try dsimp only at hSw); (try go_simp); (try with_reducible rfl))
          try simp only [Act.put, List.setIfInBounds_toArray, List.set_cons_zero, List.set_cons_succ]
          refine wpAnyH_take (i := 3) (oi := { dst := some 43, op := Go.Op.binOp Go.BinOp.add 3 (Go.Operand.const (Go.Value.int Go.IntKind.i64 1)) (Go.Operand.tmp 42) 3, type := 3, pos := _, after := #[{ on := 2, ground := Go.Ground.data }, { on := 8, ground := Go.Ground.gcOnly Go.Departure.lateStores }], guard := none }) (v := ?_) rfl (by kernel_rfl) (by kernel_rfl) (by kernel_rfl) (fun _ _ _ h => h) (Or.inl ⟨by rfl, ?_⟩) hHeld ?_
          rotate_left
          · (intro wq hSw; (try dsimp only at hSw); (try go_simp); (try with_reducible rfl))
          try simp only [Act.put, List.setIfInBounds_toArray, List.set_cons_zero, List.set_cons_succ]
          refine wpAnyH_take (i := 4) (oi := { dst := some 44, op := Go.Op.fieldAddr 39 (Go.Operand.tmp 2) 1, type := 0, pos := _, after := #[], guard := none }) (v := ?_) rfl (by kernel_rfl) (by kernel_rfl) (by kernel_rfl) (fun _ _ _ h => h) (Or.inl ⟨by rfl, ?_⟩) hHeld ?_
          rotate_left
          · (intro wq hSw; (try dsimp only at hSw); (try go_simp); (try with_reducible rfl))
          try simp only [Act.put, List.setIfInBounds_toArray, List.set_cons_zero, List.set_cons_succ]
          refine wpAnyH_take (i := 5) (oi := { dst := some 45, op := Go.Op.load 37 (Go.Operand.tmp 44), type := 37, pos := _, after := #[{ on := 4, ground := Go.Ground.data }], guard := none }) (v := ?_) rfl (by kernel_rfl) (by kernel_rfl) (by kernel_rfl) (fun _ _ _ h => h) (Or.inl ⟨by rfl, ?_⟩) hHeld ?_
          rotate_left
          · (intro wq hSw; (try dsimp only at hSw); (try go_simp); (try with_reducible rfl))
          try simp only [Act.put, List.setIfInBounds_toArray, List.set_cons_zero, List.set_cons_succ]
          refine wpAnyH_take (i := 6) (oi := { dst := some 46, op := Go.Op.call { callee := Go.Callee.builtin Go.Builtin.len, args := #[Go.Operand.tmp 45], argTypes := #[37] }, type := 3, pos := _, after := #[{ on := 5, ground := Go.Ground.data }], guard := none }) (v := ?_) rfl (by kernel_rfl) (by kernel_rfl) (by kernel_rfl) (fun _ _ _ h => h) (Or.inl ⟨by rfl, ?_⟩) hHeld ?_
          rotate_left
          · (intro wq hSw; (try dsimp only at hSw); (try go_simp); (try with_reducible rfl))
          try simp only [Act.put, List.setIfInBounds_toArray, List.set_cons_zero, List.set_cons_succ]
          refine wpAnyH_take (i := 7) (oi := { dst := some 47, op := Go.Op.binOp Go.BinOp.add 3 (Go.Operand.tmp 43) (Go.Operand.tmp 46) 3, type := 3, pos := _, after := #[{ on := 3, ground := Go.Ground.data }, { on := 6, ground := Go.Ground.data }, { on := 8, ground := Go.Ground.gcOnly Go.Departure.lateStores }], guard := none }) (v := ?_) rfl (by kernel_rfl) (by kernel_rfl) (by kernel_rfl) (fun _ _ _ h => h) (Or.inl ⟨by rfl, ?_⟩) hHeld ?_
          rotate_left
          · (intro wq hSw; (try dsimp only at hSw); (try go_simp); (try with_reducible rfl))
          try simp only [Act.put, List.setIfInBounds_toArray, List.set_cons_zero, List.set_cons_succ]
          have A2s := ((A2n.set_other (p := ⟨w.heap.size + 1 + 1, 0, none⟩) (z := .int .i64 m) (by simp; omega)).set_other (p := ⟨w.heap.size + 1 + 1, 1, none⟩) (z := (.slice (some ⟨g5, 0, none⟩) (gs.length + 1) c5)) (by simp; omega))
          obtain ⟨c0, c1, _⟩ := A2s.cells
          refine wpAnyH_ready (rs := [8]) (by kernel_rfl) (by simp) ?_
          refine AllReadyH.cons (o := { dst := none, op := Go.Op.store 39 (Go.Operand.tmp 4) (Go.Operand.tmp 40), type := 0, pos := _, after := #[{ on := 0, ground := Go.Ground.data }, { on := 0, ground := Go.Ground.phase }, { on := 1, ground := Go.Ground.textOnly Go.Departure.lateStores }, { on := 2, ground := Go.Ground.textOnly Go.Departure.lateStores }, { on := 3, ground := Go.Ground.textOnly Go.Departure.lateStores }, { on := 4, ground := Go.Ground.textOnly Go.Departure.lateStores }, { on := 5, ground := Go.Ground.textOnly Go.Departure.lateStores }, { on := 6, ground := Go.Ground.textOnly Go.Departure.lateStoresUnsure }, { on := 7, ground := Go.Ground.textOnly Go.Departure.lateStores }], guard := none }) rfl (fun KK hKK => ?_) AllReadyH.nil
          go_simp
          refine hKK.out _ _ (⟨c0, c1⟩) (fun hHeld => ?_)
          clear hKK KK
          try simp only [Act.put, List.setIfInBounds_toArray, List.set_cons_zero, List.set_cons_succ]
          refine wpAnyH_take (i := 9) (oi := { dst := some 5, op := Go.Op.assign (Go.Operand.tmp 47), type := 3, pos := _, after := #[{ on := 7, ground := Go.Ground.data }, { on := 8, ground := Go.Ground.chain }, { on := 0, ground := Go.Ground.phase }, { on := 1, ground := Go.Ground.phase }, { on := 2, ground := Go.Ground.phase }, { on := 3, ground := Go.Ground.phase }, { on := 4, ground := Go.Ground.phase }, { on := 5, ground := Go.Ground.phase }, { on := 6, ground := Go.Ground.phase }, { on := 7, ground := Go.Ground.phase }, { on := 8, ground := Go.Ground.phase }], guard := none }) (v := ?_) rfl (by kernel_rfl) (by kernel_rfl) (by kernel_rfl) (fun _ _ _ h => h) (Or.inl ⟨by rfl, ?_⟩) hHeld ?_
          rotate_left
          · (intro wq hSw; (try dsimp only at hSw); (try go_simp); (try with_reducible rfl))
          try simp only [Act.put, List.setIfInBounds_toArray, List.set_cons_zero, List.set_cons_succ]
          refine wpAnyH_done (by kernel_rfl) ?_ _
          refine NoPanic.normal ?_
          have A4f := (A4n.set0 (.int .i64 m)).set1 ((.slice (some ⟨g5, 0, none⟩) (gs.length + 1) c5))
          obtain ⟨r0, r1, _⟩ := A4f.cells
          have OF := Go.RowKit.ownsRow_setCell_below (Go.RowKit.ownsRow_setCell_below own3 (a := ⟨w.heap.size + 1 + 1, 0, none⟩) (by show w.heap.size + 1 + 1 < _; omega) (.int .i64 m)) (a := ⟨w.heap.size + 1 + 1, 1, none⟩) (by show w.heap.size + 1 + 1 < _; omega) ((.slice (some ⟨g5, 0, none⟩) (gs.length + 1) c5))
          have BF := (B3.setCell (p := ⟨w.heap.size + 1 + 1, 0, none⟩) (by show w.heap.size ≤ w.heap.size + 1 + 1; omega) (.int .i64 m)).setCell (p := ⟨w.heap.size + 1 + 1, 1, none⟩) (by show w.heap.size ≤ w.heap.size + 1 + 1; omega) ((.slice (some ⟨g5, 0, none⟩) (gs.length + 1) c5))
          have OF2 := putSnoc (g := (x0, x1, x2)) (gs := gs) (Go.Joins.ownsRow_le OF (by omega : B ≤ V.heap.size))
          go_wp2_with fail
          exact bodyPost_ret (v := .tuple #[.agg #[.int .i64 m, (.slice (some ⟨g5, 0, none⟩) (gs.length + 1) c5)], .int .i64 (1 + m + ((gs.length : Int) + 1))]) (by simp [results, Try.results79, go_sem, r0, r1]) rfl ⟨gs ++ [(x0, x1, x2)], _, _, _, by rw [snoc_len], by rw [snoc_len]; exact OF2, .inr rfl, by omega, by omega, fun q e => .inr (by have := (OF.lt q (by rw [snoc_len] at e; exact e)).1; omega), BF⟩
end Go.Proofs.Yteeaafdgkepaeaa
