/- Rows that a call makes and grows while it reads its code; declarations that it draws: what they come to. The conditions stand in each statement. -/
import Derived.Test.YtklbdfjmhbiheaaDoorEd
import Derived.Test.YtklbdfjmhbiheaaDoorRn
import Derived.Deep.AppendLies
namespace Go.Proofs.YtklbdfjmhbiheaaDoor
open Go.RowKit

theorem RdOk.le {w : World} {g : Nat} {v : Value} {P P' : Nat} (h : RdOk w g v P) (hp : P ≤ P') : RdOk w g v P' := by
  obtain ⟨p, h1, h2⟩ := h; exact ⟨p, Nat.le_trans h1 hp, h2⟩
/-- only a row that was not there when the reader was seen to be well has turned -/
theorem RdOk.growNew {w w' w0 : World} {g : Nat} {v : Value} {P P0 : Nat} {row : Option Nat} (h : RdOk w g v P) (h0 : RdOk w0 g v P0) (hg : w.grownBy w' row) (hr : ∀ k, row = some k → w0.heap.size ≤ k) : RdOk w' g v P := by
  have hl := h0.lt
  have hb : ∀ q, w0.heap.size ≤ q → ∀ b off len cap, v = .slice (some ⟨b, off, none⟩) len cap → 1 ≤ len → b ≠ q := fun q hq => rd_code_ne h0 hq
  obtain ⟨p, h1, h2, h3⟩ := h
  have hgl : g < w.heap.size := (Array.getElem?_eq_some_iff.1 h2).1
  refine ⟨p, h1, (hg.block g hgl (fun e => ?_)).trans h2, ?_⟩
  · have := hr g e.symm; omega
  · rcases h3 with h3 | ⟨b, off, len, cap, rfl, a1, a2, a3, a4, a5⟩
    · exact .inl h3
    · refine .inr ⟨b, off, len, cap, rfl, a1, a2, a3, Nat.lt_of_lt_of_le a4 hg.size, fun i hi => ?_⟩
      obtain ⟨u, hu, hc⟩ := a5 i hi
      refine ⟨u, hu, hg.cell hc (fun e => ?_)⟩
      exact hb b (hr b e.symm) b off len cap rfl a1 rfl
theorem grown_new {a w w' : World} {g : Nat} {row : Option Nat} (h : a.grownBy w (some g)) (hg : w.grownBy w' row) (hr : ∀ k, row = some k → a.heap.size ≤ k) : a.grownBy w' (some g) :=
  ⟨hg.os.trans h.os, hg.tape.trans h.tape, hg.output.trans h.output, Nat.le_trans h.size hg.size, fun i hi hne => (hg.block i (Nat.lt_of_lt_of_le hi h.size) (fun e => by have := hr i e.symm; omega)).trans (h.block i hi hne)⟩
/-- a row of one's own over a step that turns only a block below its base -/
theorem own_grown {w w' : World} {base size n g : Nat} {e : TypeId} {v : Value} {xs : List Value} (h : w.ownsRow base e size v n xs) (hg : w.grownBy w' (some g)) (hlt : g < base) : w'.ownsRow base e size v n xs :=
  h.kept hg (by
    cases hv : v.ownBlock with
    | none => exact .inl rfl
    | some k => exact .inr (fun e => by have := (h.lt k hv).1; simp at e; omega))
theorem own_row_ge {w : World} {base size n : Nat} {e : TypeId} {v : Value} {xs : List Value} (h : w.ownsRow base e size v n xs) : ∀ k, v.ownBlock = some k → base ≤ k := fun k hk => (h.lt k hk).1

/-- a text of at most n bytes -/
def IsS (n : Nat) (x : Value) : Prop := ∃ s : ByteArray, x = .string s ∧ s.size ≤ n

set_option maxHeartbeats 1000000 in
theorem of_any (g P : Nat) (v : Value) (h n cap m : Nat) (w : World) (hr : RdOk w g v P) (hP : P ≤ 1000000) (hn : 1 ≤ n) (hm : n ≤ 1000) (hne : h ≠ g)
    (hc : ∀ i, i < n → ∃ x : ByteArray, w.cell? ⟨h, i, none⟩ = some (.string x) ∧ x.size ≤ m) :
    Calls Tryd.prog 57 #[.pointer (some ⟨g, 0, none⟩), .slice (some ⟨h, 0, none⟩) n cap] w (Drawn g v (P + 1) (IsS m) w) := by
  have hn' : (1 : Int) ≤ (n : Int) := by omega
  go_enter Tryd.func57, Tryd.ntmps57
  go_wp2_with fail
  refine (pick_any g P v n _ hr hP).mono ?_
  rintro e w1 ⟨k, rfl, k0, k1, _, hg1, hr1⟩
  have k2 := k1 hn'
  obtain ⟨j, rfl⟩ := Int.eq_ofNat_of_zero_le k0
  obtain ⟨x, hx, hxs⟩ := hc j (by omega)
  have hx1 : w1.cell? ⟨h, j, none⟩ = some (.string x) := hg1.cell hx (by simpa using hne)
  have G : Hid (Drawn g v (P + 1) (IsS m) w (.returned (.string x)) w1) := ⟨_, rfl, ⟨x, rfl, hxs⟩, hg1, hr1⟩
  clear hc hx k1 hr hr1 hg1 hxs
  go_wp2_with fail
  go_ret
  exact G.out

theorem new_strs (W : World) (l : List ByteArray) (t : TypeId) (m : Nat) (hl : ∀ x ∈ l, x.size ≤ m) : ∀ i, i < l.length → ∃ x : ByteArray, (W.alloc (.cells (l.map Value.string).toArray t)).cell? ⟨W.heap.size, i, none⟩ = some (.string x) ∧ x.size ≤ m := by
  intro i hi
  refine ⟨l[i], ?_, hl _ (List.getElem_mem _)⟩
  rw [World.cell?_alloc_new]
  simp [hi]


/-- the cells of declarations, in a row -/
def dflat : List Dc → List Value
  | [] => []
  | d :: ds => .string d.1 :: .int .i64 d.2 :: dflat ds
theorem dflat_len : ∀ ds, (dflat ds).length = ds.length * 2
  | [] => rfl
  | d :: ds => by simp only [dflat, List.length_cons, dflat_len ds]; omega
theorem dflat_append : ∀ ds es, dflat (ds ++ es) = dflat ds ++ dflat es
  | [], _ => rfl
  | d :: ds, es => by simp only [List.cons_append, dflat, dflat_append ds es]
theorem dflat_get : ∀ (ds : List Dc) (i j : Nat), i < ds.length → j < 2 → (dflat ds)[i * 2 + j]? = some (dcell ds i j)
  | [], _, _, h, _ => absurd h (Nat.not_lt_zero _)
  | d :: ds, 0, 0, _, _ => rfl
  | d :: ds, 0, 1, _, _ => rfl
  | d :: ds, i + 1, j, h, hj => by
    have := dflat_get ds i j (by simpa using h) hj
    rw [show (i + 1) * 2 + j = (i * 2 + j) + 1 + 1 by omega]
    simp only [dflat, List.getElem?_cons_succ]
    rw [this]
    match j, hj with
    | 0, _ => simp [dcell]
    | 1, _ => simp [dcell]
theorem dflat_fill (ds : List Dc) : dflat ds = fillS (dcell ds) dzero ds.length 2 ds.length := by
  apply List.ext_getElem?
  intro q
  by_cases hq : q < ds.length * 2
  · rw [fillS_get _ _ _ _ _ hq, if_pos hq]
    have := dflat_get ds (q / 2) (q % 2) (by omega) (by omega)
    rw [show q / 2 * 2 + q % 2 = q by omega] at this
    exact this
  · rw [List.getElem?_eq_none (by rw [dflat_len]; omega), List.getElem?_eq_none (by rw [fillS_len]; omega)]
/-- a row of one's own of declarations, base b -/
def OwnD (w : World) (base : Nat) (v : Value) (ds : List Dc) : Prop := w.ownsRow base 39 2 v ds.length (dflat ds)
theorem OwnD.decls {w : World} {base : Nat} {v : Value} {ds : List Dc} (h : OwnD w base v ds) (hn : Named ds) : Decls w v ds := by
  unfold OwnD at h
  rw [dflat_fill] at h
  obtain ⟨a, cap, rfl, hr⟩ := RowS.of_own (by omega) h
  exact ⟨a, cap, rfl, hr, hn⟩
theorem Named.snoc {ds : List Dc} {d : Dc} (h : Named ds) (hd : d.1.size ≤ 9223372036854775807) : Named (ds ++ [d]) := by
  intro i hi
  rcases Nat.lt_or_ge i ds.length with h1 | h1
  · rw [List.getD_eq_getElem?_getD, List.getElem?_append_left h1, ← List.getD_eq_getElem?_getD]; exact h i h1
  · have : i = ds.length := by simp at hi; omega
    subst this
    simpa [List.getD_eq_getElem?_getD] using hd
theorem snoc_getD_lt {α : Type} {l : List α} {x d : α} {i : Nat} (h : i < l.length) : (l ++ [x]).getD i d = l.getD i d := by
  simp [List.getD_eq_getElem?_getD, List.getElem?_append_left h]
theorem snoc_getD_at {α : Type} {l : List α} {x d : α} : (l ++ [x]).getD l.length d = x := by
  simp [List.getD_eq_getElem?_getD]

set_option maxHeartbeats 400000 in
theorem l1Min_of (n k : Int) (w : World) :
    Calls Tryd.prog 58 #[.int .i64 n, .int .i64 k] w fun e w' => e = .returned (.int .i64 (min n k)) ∧ w = w' := by
  by_cases h : n < k
  · rw [show min n k = n by omega]
    go_enter Tryd.func58, Tryd.ntmps58
    go_wp2
    go_ret
    exact ⟨rfl, rfl⟩
  · rw [show min n k = k by omega]
    go_enter Tryd.func58, Tryd.ntmps58
    go_wp2
    go_ret
    exact ⟨rfl, rfl⟩

/-- what is drawn: names of one byte, numbers of one to four bits, no more than eight in all -/
def DrawnD (ds : List Dc) : Prop := 1 ≤ ds.length ∧ ds.length ≤ 4 ∧ ∀ i, i < ds.length → (ds.getD i dz).1.size ≤ 1 ∧ 1 ≤ (ds.getD i dz).2 ∧ (ds.getD i dz).2 ≤ 4
theorem DrawnD.named {ds : List Dc} (h : DrawnD ds) : Named ds := fun i hi => by have := (h.2.2 i hi).1; omega
def GaveD (g : Nat) (v : Value) (P : Nat) (w : World) (e : Ending) (w' : World) : Prop :=
  ∃ (b cap : Nat) (ds : List Dc), e = .returned (.slice (some ⟨b, 0, none⟩) ds.length cap) ∧ OwnD w' w.heap.size (.slice (some ⟨b, 0, none⟩) ds.length cap) ds ∧ DrawnD ds ∧ w.grownBy w' (some g) ∧ RdOk w' g v P

theorem block_grown {w w' : World} {k : Nat} {o : Obj} {row : Option Nat} (h : w.heap[k]? = some o) (hg : w.grownBy w' row) (hne : row ≠ some k) : w'.heap[k]? = some o :=
  (hg.block k (Array.getElem?_eq_some_iff.1 h).1 (fun e => hne e.symm)).trans h
def fourNames : Array Value := #[.string ⟨#[120]⟩, .string ⟨#[121]⟩, .string ⟨#[122]⟩, .string ⟨#[119]⟩]
theorem four_at {w : World} {k : Nat} {t : TypeId} (h : w.heap[k]? = some (.cells fourNames t (0, 0))) {i : Nat} (hi : i < 4) : ∃ nm : ByteArray, w.cell? ⟨k, i, none⟩ = some (.string nm) ∧ nm.size = 1 := by
  match i, hi with
  | 0, _ => exact ⟨⟨#[120]⟩, by simp [World.cell?, h, fourNames], rfl⟩
  | 1, _ => exact ⟨⟨#[121]⟩, by simp [World.cell?, h, fourNames], rfl⟩
  | 2, _ => exact ⟨⟨#[122]⟩, by simp [World.cell?, h, fourNames], rfl⟩
  | 3, _ => exact ⟨⟨#[119]⟩, by simp [World.cell?, h, fourNames], rfl⟩

set_option maxRecDepth 100000 in
set_option maxHeartbeats 4000000 in
theorem l2Decls_any (g P : Nat) (v : Value) (w : World) (hr : RdOk w g v P) (hP : P ≤ 900000) :
    Calls Tryd.prog 41 #[.pointer (some ⟨g, 0, none⟩)] w (GaveD g v (P + 16) w) := by
  have gl := hr.lt
  obtain ⟨i0, hi, hz0, hz1, hz2⟩ := info_parts infoDecl
  go_enter Tryd.func41, Tryd.ntmps41
  go_wp2_with fail
  have N0 : ((w.alloc (.cells fourNames 9)).alloc (.cells #[] 39)).heap[w.heap.size]? = some (.cells fourNames 9 (0, 0)) := by
    show ((w.heap.push _).push _)[w.heap.size]? = _
    rw [Array.getElem?_push, if_neg (by simp), Array.getElem?_push, if_pos rfl]
  have S0 : OwnD ((w.alloc (.cells fourNames 9)).alloc (.cells #[] 39)) (w.heap.size + 1) (.slice (some ⟨w.heap.size + 1, 0, none⟩) 0 0) [] := by
    have := World.ownsRow_lit (e := 39) (size := 2) (w.alloc (.cells fourNames 9)) #[] 0 (Nat.le_refl _) (Nat.zero_le _) rfl
    unfold OwnD dflat
    simpa using this
  have G0 : w.grownBy ((w.alloc (.cells fourNames 9)).alloc (.cells #[] 39)) (some g) := grown_alloc (World.grownBy_alloc _ _ _) _
  have R0 : RdOk ((w.alloc (.cells fourNames 9)).alloc (.cells #[] 39)) g v P := (hr.alloc _).alloc _
  go_loopw [6, 5, 4] (fun i q o wr => ∃ (k : Nat) (bits : Int) (b cap : Nat) (ds : List Dc), k ≤ 4 ∧ i = .int .i64 k ∧ q = .int .i64 bits ∧ o = .slice (some ⟨b, 0, none⟩) ds.length cap ∧ 0 ≤ bits ∧ bits ≤ 8 ∧ ds.length = k ∧ (k = 0 → bits = 0) ∧ OwnD wr (w.heap.size + 1) (.slice (some ⟨b, 0, none⟩) ds.length cap) ds ∧ Hid (∀ i, i < ds.length → (ds.getD i dz).1.size ≤ 1 ∧ 1 ≤ (ds.getD i dz).2 ∧ (ds.getD i dz).2 ≤ 4) ∧ w.grownBy wr (some g) ∧ RdOk wr g v (P + 2 * k) ∧ wr.heap[w.heap.size]? = some (.cells fourNames 9 (0, 0))) (fun i _ _ _ => 4 - (intOf i).toNat)
  case atStart => exact ⟨0, 0, _, _, [], Nat.zero_le _, rfl, rfl, rfl, by omega, by omega, rfl, fun _ => rfl, S0, fun _ h => absurd h (Nat.not_lt_zero _), G0, R0, N0⟩
  case round =>
    clear S0 G0 R0 N0
    obtain ⟨k, bits, b, cap, ds, hk, rfl, rfl, rfl, b0, b8, hlen, hz, own, hq, G, R, N⟩ := hrel
    subst hlen
    have fin : ∀ w' Q, 1 ≤ ds.length → Q ≤ P + 16 → OwnD w' (w.heap.size + 1) (.slice (some ⟨b, 0, none⟩) ds.length cap) ds → w.grownBy w' (some g) → RdOk w' g v Q → GaveD g v (P + 16) w (.returned (.slice (some ⟨b, 0, none⟩) ds.length cap)) w' := fun w' Q h1 hQ o G R =>
      ⟨b, cap, ds, rfl, Go.Joins.ownsRow_le o (by omega), ⟨by omega, by omega, hq.out⟩, G, R.le hQ⟩
    have FIN := Lib.hid fin
    clear fin
    go_wp2_with fail
    refine (pick_any g (P + 2 * ds.length) v 4 _ R (by omega)).mono ?_
    rintro e w1 ⟨p, rfl, p0, p1, _, hg1, R1⟩
    replace p1 := p1 (by omega)
    replace G := grown_two G hg1
    replace own := own_grown own hg1 (by omega)
    replace N := block_grown N hg1 (by simp; omega)
    clear R hg1
    by_cases h1 : (ds.length : Int) < 1 + p
    · have hk4 : (ds.length : Int) < 4 := by omega
      go_wp2_with fail
      refine (pick_any g (P + 2 * ds.length + 1) v 4 _ R1 (by omega)).mono ?_
      rintro e w2 ⟨q, rfl, q0, q1, _, hg2, R2⟩
      replace q1 := q1 (by omega)
      replace G := grown_two G hg2
      replace own := own_grown own hg2 (by omega)
      replace N := block_grown N hg2 (by simp; omega)
      clear R1 hg2
      go_wp2_with fail
      refine (l1Min_of _ _ _).mono ?_
      rintro e w3 ⟨rfl, rfl⟩
      obtain ⟨y, hy⟩ : ∃ y, y = min (1 + q) (8 - bits) := ⟨_, rfl⟩
      rw [← hy]
      by_cases hy1 : y < 1
      · have hk1 : 1 ≤ ds.length := by
          rcases Nat.eq_zero_or_pos ds.length with h0 | h0
          · have := hz h0; omega
          · exact h0
        have F := Lib.hid (FIN.out _ _ hk1 (by omega) own G R2)
        clear hy FIN own G R2 hq
        go_wp2_with fail
        go_ret
        exact F.out
      · obtain ⟨nm, hnm, hsz⟩ := four_at N (i := ds.length) (by omega)
        have HQ : Hid (∀ i, i < (ds ++ [(nm, y)]).length → ((ds ++ [(nm, y)]).getD i dz).1.size ≤ 1 ∧ 1 ≤ ((ds ++ [(nm, y)]).getD i dz).2 ∧ ((ds ++ [(nm, y)]).getD i dz).2 ≤ 4) := fun i hi => by
          rcases Nat.lt_or_ge i ds.length with h3 | h3
          · rw [snoc_getD_lt h3]; exact hq.out i h3
          · obtain rfl : i = ds.length := by simp at hi; omega
            rw [snoc_getD_at]
            exact ⟨by show nm.size ≤ 1; omega, by show 1 ≤ y; omega, by show y ≤ 4; omega⟩
        have yb : bits + y ≤ 8 := by omega
        have own' : (w2.alloc (.cells #[.string nm, .int .i64 y] 39)).ownsRow (w.heap.size + 1) 39 2 (.slice (some ⟨b, 0, none⟩) ds.length cap) ds.length (dflat ds) := World.ownsRow.alloc own _
        have G' := grown_alloc G (.cells #[.string nm, .int .i64 y] 39)
        have R' := R2.alloc (.cells #[.string nm, .int .i64 y] 39)
        have N' : (w2.alloc (.cells #[.string nm, .int .i64 y] 39)).heap[w.heap.size]? = some (.cells fourNames 9 (0, 0)) := block_grown N (World.grownBy_alloc _ _ none) (by simp)
        have hgs := G.size
        have hbl := own.lt b rfl
        clear own G R2 hq FIN hy N
        go_wp2_with (at_builtin; refine wpList_append_lies _ rfl _ _ _ rfl (w.heap.size + 1) 39 i0 (.agg #[.string ⟨#[]⟩, .int .i64 0]) 2 24 Tryd.underlying25 hi hz0 hz1 hz2 rfl (by omega) _ ds.length (dflat ds) rfl own' ⟨w2.heap.size, 0, none⟩ 1 1 [.string nm, .int .i64 y] rfl rfl (World.news_of_block (heap_alloc_new w2 _)) (by simp [Value.oneCell']) (by omega) (by unfold maxLen; omega) (by omega) (by simp; omega) _ rfl ?_; intro b2 cap2 w3 own3 hg3 hat hlt3)
        have G3 := grown_new G' hg3 (fun j hj => by have := own_row_ge own' j hj; omega)
        have R3 := R'.growNew hr hg3 (fun j hj => by have := own_row_ge own' j hj; omega)
        have N3 := block_grown N' hg3 (fun e => by have := own_row_ge own' _ e; omega)
        have own4 : OwnD w3 (w.heap.size + 1) (.slice (some ⟨b2, 0, none⟩) (ds ++ [(nm, y)]).length cap2) (ds ++ [(nm, y)]) := by
          unfold OwnD
          rw [dflat_append, List.length_append]
          exact own3
        exact ⟨⟨ds.length + 1, bits + y, b2, cap2, ds ++ [(nm, y)], by omega, by go_num, rfl, by simp, by omega, by omega, by simp, by omega, own4, HQ.out, G3, R3.le (by omega), N3⟩, by simp [intOf]; omega⟩
    · have hk1 : 1 ≤ ds.length := by omega
      have F := Lib.hid (FIN.out _ _ hk1 (by omega) own G R1)
      clear FIN own G R1 hq
      go_wp2_with fail
      go_ret
      exact F.out
end Go.Proofs.YtklbdfjmhbiheaaDoor
