/- A region that draws its order and makes 'append(append([]T{}, row...), x)' beside other blocks: whatever order is drawn, what lies there at its end is the same. The conditions stand in each statement. -/
import Derived.Test.YteeaafdgkepaeaaSa
import Derived.Deep.RegionHeldLaw
namespace Go.Proofs.Yteeaafdgkepaeaa
open Go.RowKit

theorem hk_at {w : World} {o : Obj} {k : Nat} (h : w.heap.size = k) : (w.alloc o).heap[k]? = some o := by subst h; exact heap_alloc_new w o
theorem hk_alloc {w : World} {o o' : Obj} {k : Nat} (h : w.heap[k]? = some o) : (w.alloc o').heap[k]? = some o := by
  rw [heap_alloc_old w o' (Array.getElem?_eq_some_iff.1 h).1]; exact h
theorem hk_drew {w : World} {o : Obj} {k : Nat} (h : w.heap[k]? = some o) : w.drew.heap[k]? = some o := h
theorem hk_lt {w : World} {o : Obj} {k : Nat} (h : w.heap[k]? = some o) : k < w.heap.size := (Array.getElem?_eq_some_iff.1 h).1
theorem hk_set {w : World} {k : Nat} {o : Obj} (h : w.heap[k]? = some o) {p : Addr} (hne : k ≠ p.block) (u : Value) : (w.setCell p u).heap[k]? = some o :=
  (Below.heap_setCell w p u k hne).trans h
theorem hk_grown {w w' : World} {k : Nat} {o : Obj} {row : Option Nat} (h : w.heap[k]? = some o) (hg : w.grownBy w' row) (hne : row ≠ some k) : w'.heap[k]? = some o :=
  (hg.block k (Array.getElem?_eq_some_iff.1 h).1 (fun e => hne e.symm)).trans h
theorem own_at {w : World} {base size k : Nat} {e : TypeId} (h : w.heap[k]? = some (.cells #[] e (0, 0))) (hb : base ≤ k) : w.ownsRow base e size (.slice (some ⟨k, 0, none⟩) 0 0) 0 [] :=
  ⟨by simp, .inr ⟨k, 0, #[], rfl, hb, h, Nat.le_refl _, Nat.zero_le _, by simp, by simp⟩⟩

theorem grown_setCell (w : World) (p : Addr) (u : Value) : w.grownBy (w.setCell p u) (some p.block) :=
  have h := (Below.refl 0 w).setCell (Nat.zero_le p.block) u
  ⟨h.os, h.tape, h.output, h.size, fun i _ hne => Below.heap_setCell w p u i (fun e => hne (by rw [e]))⟩
theorem own_setCell {w : World} {base size n : Nat} {e : TypeId} {v : Value} {xs : List Value} (h : w.ownsRow base e size v n xs) {p : Addr} (hne : v.ownBlock ≠ some p.block) (u : Value) : (w.setCell p u).ownsRow base e size v n xs :=
  h.kept (grown_setCell w p u) (.inr hne)

def putIf (f : Bool) (d : Option Tmp) (v : Value) (a : Act) : Act := if f then a.put d v else a
def setIf (f : Bool) (i : Nat) (l : Array Bool) : Array Bool := if f then l.setIfInBounds i true else l
def apartT (x y : Option Tmp) : Prop := ∀ d, x = some d → y ≠ some d
theorem apartT.symm {x y : Option Tmp} (h : apartT x y) : apartT y x := fun d e e' => h d e' e
theorem putIf_put {f : Bool} {d d' : Option Tmp} (h : apartT d d') (v u : Value) (a : Act) : (putIf f d v a).put d' u = putIf f d v (a.put d' u) := by
  unfold putIf; split
  · exact Act.put_comm a v u h
  · rfl
theorem setIf_set {f : Bool} {i j : Nat} (h : i ≠ j) (l : Array Bool) : (setIf f i l).setIfInBounds j true = setIf f i (l.setIfInBounds j true) := by
  unfold setIf; split
  · exact Array.setIfInBounds_comm _ _ h
  · rfl
theorem putIf_on (d : Option Tmp) (v : Value) (a : Act) : a.put d v = putIf true d v a := rfl
theorem putIf_off (d : Option Tmp) (v : Value) (a : Act) : putIf false d v a = a := rfl
theorem setIf_on (i : Nat) (l : Array Bool) : l.setIfInBounds i true = setIf true i l := rfl
theorem setIf_off (i : Nat) (l : Array Bool) : setIf false i l = l := rfl
theorem put_size (a : Act) (d : Option Tmp) (v : Value) : (a.put d v).tmps.size = a.tmps.size := by cases d <;> simp [Act.put]
theorem putIf_size (f : Bool) (d : Option Tmp) (v : Value) (a : Act) : (putIf f d v a).tmps.size = a.tmps.size := by unfold putIf; split <;> simp [put_size]
theorem eval_put_ne {a : Act} {d : Option Tmp} {v : Value} {x : Nat} (h : d ≠ some x) : (a.put d v).eval (.tmp x) = a.eval (.tmp x) := by
  cases d with
  | none => rfl
  | some d => simp only [Act.put, Act.eval]; rw [Array.getD_eq_getD_getElem?, Array.getD_eq_getD_getElem?, Array.getElem?_setIfInBounds_ne (fun e => h (by rw [e]))]
theorem eval_putIf_ne {f : Bool} {a : Act} {d : Option Tmp} {v : Value} {x : Nat} (h : d ≠ some x) : (putIf f d v a).eval (.tmp x) = a.eval (.tmp x) := by
  unfold putIf; split
  · exact eval_put_ne h
  · rfl
theorem eval_put_eq {a : Act} {v : Value} {x : Nat} (h : x < a.tmps.size) : (a.put (some x) v).eval (.tmp x) = v := by
  simp [Act.put, Act.eval, h]
theorem eval_putIf_eq {a : Act} {v : Value} {x : Nat} (h : x < a.tmps.size) : (putIf true (some x) v a).eval (.tmp x) = v := eval_put_eq h

/-- What the region has made so far: the blocks A and G, the empty row B, the row D that the first append makes of it, the block E that holds what is appended, the row F behind the second append. -/
structure Dia (W : World) (t : TypeId) (size : Nat) (fs : List Value) (xs : Nat → List Value) (n n' : Nat) (pA pG : Bool) (OA OG : Obj) (OE : Nat → Obj)
    (a b d g e f : Bool) (ka kb kg ke : Nat) (vd vf : Value) (w : World) : Prop where
  bel : Below W.heap.size W w
  A : a = true → pA = true → W.heap.size ≤ ka ∧ w.heap[ka]? = some OA
  B : b = true → d = false → W.heap.size ≤ kb ∧ w.heap[kb]? = some (.cells #[] t (0, 0))
  D : d = true → f = false → w.ownsRow W.heap.size t size vd n fs
  G : g = true → pG = true → W.heap.size ≤ kg ∧ w.heap[kg]? = some OG
  E : e = true → f = false → W.heap.size ≤ ke ∧ w.heap[ke]? = some (OE kg)
  F : f = true → w.ownsRow W.heap.size t size vf n' (fs ++ xs kg)
  AB : a = true → pA = true → b = true → d = false → ka ≠ kb
  AD : a = true → pA = true → d = true → f = false → vd.ownBlock ≠ some ka
  AF : a = true → pA = true → f = true → vf.ownBlock ≠ some ka
  GB : g = true → pG = true → b = true → d = false → kg ≠ kb
  GD : g = true → pG = true → d = true → f = false → vd.ownBlock ≠ some kg
  GF : g = true → pG = true → f = true → vf.ownBlock ≠ some kg
  EB : e = true → f = false → b = true → d = false → ke ≠ kb
  ED : e = true → f = false → d = true → vd.ownBlock ≠ some ke

section
variable {W : World} {t : TypeId} {size : Nat} {fs : List Value} {xs : Nat → List Value} {n n' : Nat} {pA pG : Bool} {OA OG : Obj} {OE : Nat → Obj} {a b d g e f : Bool} {ka kb kg ke : Nat} {vd vf : Value} {w : World}

theorem Dia.allocA (h : Dia W t size fs xs n n' pA pG OA OG OE false b d g e f ka kb kg ke vd vf w) : Dia W t size fs xs n n' pA pG OA OG OE true b d g e f w.heap.size kb kg ke vd vf (w.alloc OA) :=
  { bel := below_step h.bel OA
    A := fun _ _ => ⟨h.bel.size, heap_alloc_new w OA⟩
    B := fun x y => ⟨(h.B x y).1, hk_alloc (h.B x y).2⟩
    D := fun x y => (h.D x y).alloc OA
    G := fun x y => ⟨(h.G x y).1, hk_alloc (h.G x y).2⟩
    E := fun x y => ⟨(h.E x y).1, hk_alloc (h.E x y).2⟩
    F := fun x => (h.F x).alloc OA
    AB := fun _ _ x y e => by have := hk_lt (h.B x y).2; omega
    AD := fun _ _ x y e => by have := ((h.D x y).lt _ e).2; omega
    AF := fun _ _ x e => by have := ((h.F x).lt _ e).2; omega
    GB := h.GB
    GD := h.GD
    GF := h.GF
    EB := h.EB
    ED := h.ED }
theorem Dia.allocB (h : Dia W t size fs xs n n' pA pG OA OG OE a false false g e f ka kb kg ke vd vf w) : Dia W t size fs xs n n' pA pG OA OG OE a true false g e f ka w.heap.size kg ke vd vf (w.alloc (.cells #[] t (0, 0))) :=
  { bel := below_step h.bel _
    A := fun x y => ⟨(h.A x y).1, hk_alloc (h.A x y).2⟩
    B := fun _ _ => ⟨h.bel.size, heap_alloc_new w _⟩
    D := nofun
    G := fun x y => ⟨(h.G x y).1, hk_alloc (h.G x y).2⟩
    E := fun x y => ⟨(h.E x y).1, hk_alloc (h.E x y).2⟩
    F := fun x => (h.F x).alloc _
    AB := fun x y _ _ e => by have := hk_lt (h.A x y).2; omega
    AD := nofun
    AF := h.AF
    GB := fun x y _ _ e => by have := hk_lt (h.G x y).2; omega
    GD := nofun
    GF := h.GF
    EB := fun x y _ _ e => by have := hk_lt (h.E x y).2; omega
    ED := nofun }
theorem Dia.allocG (h : Dia W t size fs xs n n' pA pG OA OG OE a b d false false false ka kb kg ke vd vf w) : Dia W t size fs xs n n' pA pG OA OG OE a b d true false false ka kb w.heap.size ke vd vf (w.alloc OG) :=
  { bel := below_step h.bel OG
    A := fun x y => ⟨(h.A x y).1, hk_alloc (h.A x y).2⟩
    B := fun x y => ⟨(h.B x y).1, hk_alloc (h.B x y).2⟩
    D := fun x y => (h.D x y).alloc OG
    G := fun _ _ => ⟨h.bel.size, heap_alloc_new w OG⟩
    E := nofun
    F := nofun
    AB := h.AB
    AD := h.AD
    AF := h.AF
    GB := fun _ _ x y e => by have := hk_lt (h.B x y).2; omega
    GD := fun _ _ x y e => by have := ((h.D x y).lt _ e).2; omega
    GF := nofun
    EB := nofun
    ED := nofun }
theorem Dia.allocE (h : Dia W t size fs xs n n' pA pG OA OG OE a b d g false false ka kb kg ke vd vf w) : Dia W t size fs xs n n' pA pG OA OG OE a b d g true false ka kb kg w.heap.size vd vf (w.alloc (OE kg)) :=
  { bel := below_step h.bel _
    A := fun x y => ⟨(h.A x y).1, hk_alloc (h.A x y).2⟩
    B := fun x y => ⟨(h.B x y).1, hk_alloc (h.B x y).2⟩
    D := fun x y => (h.D x y).alloc _
    G := fun x y => ⟨(h.G x y).1, hk_alloc (h.G x y).2⟩
    E := fun _ _ => ⟨h.bel.size, heap_alloc_new w _⟩
    F := nofun
    AB := h.AB
    AD := h.AD
    AF := h.AF
    GB := h.GB
    GD := h.GD
    GF := h.GF
    EB := fun _ _ x y e => by have := hk_lt (h.B x y).2; omega
    ED := fun _ y x e => by have := ((h.D x y).lt _ e).2; omega }
theorem Dia.appD {w' : World} {v' : Value} (h : Dia W t size fs xs n n' pA pG OA OG OE a true false g e false ka kb kg ke vd vf w) (own : w'.ownsRow W.heap.size t size v' n fs) (hg : w.grownBy w' (some kb)) (hat : v'.ownBlock = some kb ∨ v'.ownBlock = some w.heap.size) :
    Dia W t size fs xs n n' pA pG OA OG OE a true true g e false ka kb kg ke v' vf w' :=
  have ne : ∀ {k : Nat}, k ≠ kb → k < w.heap.size → v'.ownBlock ≠ some k := fun h1 h2 e => by
    rcases hat with e' | e' <;> rw [e'] at e <;> injection e <;> omega
  have nb : ∀ {k : Nat}, k ≠ kb → (some kb : Option Nat) ≠ some k := fun h1 e => by injection e with e; exact h1 e.symm
  { bel := below_grows h.bel hg (fun k e => by injection e with e; have := (h.B rfl rfl).1; omega)
    A := fun x y => ⟨(h.A x y).1, hk_grown (h.A x y).2 hg (nb (h.AB x y rfl rfl))⟩
    B := nofun
    D := fun _ _ => own
    G := fun x y => ⟨(h.G x y).1, hk_grown (h.G x y).2 hg (nb (h.GB x y rfl rfl))⟩
    E := fun x y => ⟨(h.E x y).1, hk_grown (h.E x y).2 hg (nb (h.EB x y rfl rfl))⟩
    F := nofun
    AB := nofun
    AD := fun x y _ _ => ne (h.AB x y rfl rfl) (hk_lt (h.A x y).2)
    AF := nofun
    GB := nofun
    GD := fun x y _ _ => ne (h.GB x y rfl rfl) (hk_lt (h.G x y).2)
    GF := nofun
    EB := nofun
    ED := fun x y _ => ne (h.EB x y rfl rfl) (hk_lt (h.E x y).2) }
theorem Dia.appF {w' : World} {v' : Value} (h : Dia W t size fs xs n n' pA pG OA OG OE a true true g true false ka kb kg ke vd vf w) (own : w'.ownsRow W.heap.size t size v' n' (fs ++ xs kg)) (hg : w.grownBy w' vd.ownBlock) (hat : v'.ownBlock = vd.ownBlock ∨ v'.ownBlock = some w.heap.size) :
    Dia W t size fs xs n n' pA pG OA OG OE a true true g true true ka kb kg ke vd v' w' :=
  have ne : ∀ {k : Nat}, vd.ownBlock ≠ some k → k < w.heap.size → v'.ownBlock ≠ some k := fun h1 h2 e => by
    rcases hat with e' | e' <;> rw [e'] at e
    · exact h1 e
    · injection e; omega
  { bel := below_grows h.bel hg (fun k e => ((h.D rfl rfl).lt k e).1)
    A := fun x y => ⟨(h.A x y).1, hk_grown (h.A x y).2 hg (h.AD x y rfl rfl)⟩
    B := nofun
    D := nofun
    G := fun x y => ⟨(h.G x y).1, hk_grown (h.G x y).2 hg (h.GD x y rfl rfl)⟩
    E := nofun
    F := fun _ => own
    AB := nofun
    AD := nofun
    AF := fun x y _ => ne (h.AD x y rfl rfl) (hk_lt (h.A x y).2)
    GB := nofun
    GD := nofun
    GF := fun x y _ => ne (h.GD x y rfl rfl) (hk_lt (h.G x y).2)
    EB := nofun
    ED := nofun }
end
def dT (dA dG : Option Tmp) (VA VG VE : Nat → Value) (yB yD yE yF : Nat) (a0 : Act) (a b d g e f : Bool) (ka kb kg ke : Nat) (vd vf : Value) : Act :=
  putIf a dA (VA ka) (putIf b (some yB) (.slice (some ⟨kb, 0, none⟩) 0 0) (putIf d (some yD) vd (putIf g dG (VG kg) (putIf e (some yE) (VE ke) (putIf f (some yF) vf a0)))))
def dL (iA iB iD iG iE iF : Nat) (L0 : Array Bool) (a b d g e f : Bool) : Array Bool :=
  setIf a iA (setIf b iB (setIf d iD (setIf g iG (setIf e iE (setIf f iF L0)))))
def dReach (pA pG a b d g e f : Bool) : Bool := (pA || a) && ((pG || g) && ((!d || b) && ((!e || g) && (!f || (d && e)))))
theorem dReach_mk {pA pG a b d g e f : Bool} (h1 : pA = true ∨ a = true) (h2 : pG = true ∨ g = true) (h3 : d = false ∨ b = true) (h4 : e = false ∨ g = true) (h5 : f = false ∨ (d = true ∧ e = true)) : dReach pA pG a b d g e f = true := by
  unfold dReach; simp only [Bool.or_eq_true, Bool.and_eq_true, Bool.not_eq_true']; exact ⟨h1, h2, h3, h4, h5⟩
def dOk (md : Region.Mode) (ops : Array Oper) (L0 : Array Bool) (iA iB iD iG iE iF : Nat) (pA pG : Bool) : Bool :=
  [false, true].all fun a => [false, true].all fun b => [false, true].all fun d => [false, true].all fun g => [false, true].all fun e => [false, true].all fun f =>
    !dReach pA pG a b d g e f || f ||
      (!(Region.ready md ops (dL iA iB iD iG iE iF L0 a b d g e f)).isEmpty &&
        (Region.ready md ops (dL iA iB iD iG iE iF L0 a b d g e f)).all fun i => (i == iA && !a) || ((i == iB && !b) || ((i == iD && (b && !d)) || ((i == iG && !g) || ((i == iE && (g && !e)) || (i == iF && (d && e)))))))
def dCnt (a b d g e f : Bool) : Nat := (!a).toNat + (!b).toNat + (!d).toNat + (!g).toNat + (!e).toNat + (!f).toNat
def apart6 (dA dG : Option Tmp) (yB yD yE yF : Nat) : Prop :=
  (apartT dA (some yB) ∧ apartT dA (some yD) ∧ apartT dA dG ∧ apartT dA (some yE) ∧ apartT dA (some yF)) ∧ (apartT (some yB) (some yD) ∧ apartT (some yB) dG ∧ apartT (some yB) (some yE) ∧ apartT (some yB) (some yF)) ∧
  (apartT (some yD) dG ∧ apartT (some yD) (some yE) ∧ apartT (some yD) (some yF)) ∧ (apartT dG (some yE) ∧ apartT dG (some yF)) ∧ apartT (some yE) (some yF)
def allNe (x : Nat) : List Nat → Bool
  | [] => true
  | y :: l => x != y && allNe x l

section
variable {P : Program} {ops : Array Oper} {Q : Exit → Act → World → Prop} {md : Region.Mode} {S : World → Prop}
theorem dia_walk (W : World) (t : TypeId) (size : Nat) (fs : List Value) (xs : Nat → List Value) (n n' : Nat) (pA pG : Bool) (OA OG : Obj) (OE : Nat → Obj) (VA VG VE : Nat → Value)
    {iA iB iD iG iE iF : Nat} {dA dG : Option Tmp} {yB yD yE yF : Nat} {oA oB oD oG oE oF : Oper} {a0 : Act} {L0 : Array Bool} {N : Nat}
    (hiA : pA = true → ops[iA]? = some oA) (hiB : ops[iB]? = some oB) (hiD : ops[iD]? = some oD) (hiG : pG = true → ops[iG]? = some oG) (hiE : ops[iE]? = some oE) (hiF : ops[iF]? = some oF)
    (hok : dOk md ops L0 iA iB iD iG iE iF pA pG = true) (hap : apart6 dA dG yB yD yE yF) (hyB : yB < a0.tmps.size) (hyD : yD < a0.tmps.size) (hyE : yE < a0.tmps.size) (hyG : ∀ y, dG = some y → y < a0.tmps.size)
    (hij : (iA ≠ iB ∧ iA ≠ iD ∧ iA ≠ iG ∧ iA ≠ iE ∧ iA ≠ iF) ∧ (iB ≠ iD ∧ iB ≠ iG ∧ iB ≠ iE ∧ iB ≠ iF) ∧ (iD ≠ iG ∧ iD ≠ iE ∧ iD ≠ iF) ∧ (iG ≠ iE ∧ iG ≠ iF) ∧ iE ≠ iF)
    (hS : ∀ w, Below W.heap.size W w → S w)
    (hA : pA = true → ∀ (a : Act) (w : World) (K : Act → World → Prop), K (a.put dA (VA w.heap.size)) (w.alloc OA) → if Region.wanted oA (yielded ops a.tmps) = true then Oper.wp P oA a w K Q else K (a.put oA.dst undef) w)
    (hB : ∀ (a : Act) (w : World) (K : Act → World → Prop), K (a.put (some yB) (.slice (some ⟨w.heap.size, 0, none⟩) 0 0)) (w.alloc (.cells #[] t (0, 0))) → if Region.wanted oB (yielded ops a.tmps) = true then Oper.wp P oB a w K Q else K (a.put oB.dst undef) w)
    (hG : pG = true → ∀ (a : Act) (w : World) (K : Act → World → Prop), (∀ x, dA ≠ some x → some yB ≠ some x → some yD ≠ some x → dG ≠ some x → some yE ≠ some x → some yF ≠ some x → a.eval (.tmp x) = a0.eval (.tmp x)) →
      K (a.put dG (VG w.heap.size)) (w.alloc OG) → if Region.wanted oG (yielded ops a.tmps) = true then Oper.wp P oG a w K Q else K (a.put oG.dst undef) w)
    (hE : ∀ (a : Act) (w : World) (K : Act → World → Prop) (kg : Nat), (∀ x, dA ≠ some x → some yB ≠ some x → some yD ≠ some x → dG ≠ some x → some yE ≠ some x → some yF ≠ some x → a.eval (.tmp x) = a0.eval (.tmp x)) →
      (pG = true → ∀ y, dG = some y → a.eval (.tmp y) = VG kg) →
      K (a.put (some yE) (VE w.heap.size)) (w.alloc (OE kg)) → if Region.wanted oE (yielded ops a.tmps) = true then Oper.wp P oE a w K Q else K (a.put oE.dst undef) w)
    (hD : ∀ (a : Act) (w : World) (K : Act → World → Prop) (kb : Nat), (∀ x, dA ≠ some x → some yB ≠ some x → some yD ≠ some x → dG ≠ some x → some yE ≠ some x → some yF ≠ some x → a.eval (.tmp x) = a0.eval (.tmp x)) →
      a.eval (.tmp yB) = .slice (some ⟨kb, 0, none⟩) 0 0 → Below W.heap.size W w → w.ownsRow W.heap.size t size (.slice (some ⟨kb, 0, none⟩) 0 0) 0 [] →
      (∀ v' w', w'.ownsRow W.heap.size t size v' n fs → w.grownBy w' (some kb) → (v'.ownBlock = some kb ∨ v'.ownBlock = some w.heap.size) → K (a.put (some yD) v') w') →
      if Region.wanted oD (yielded ops a.tmps) = true then Oper.wp P oD a w K Q else K (a.put oD.dst undef) w)
    (hF : ∀ (a : Act) (w : World) (K : Act → World → Prop) (kg ke : Nat) (vd : Value), (∀ x, dA ≠ some x → some yB ≠ some x → some yD ≠ some x → dG ≠ some x → some yE ≠ some x → some yF ≠ some x → a.eval (.tmp x) = a0.eval (.tmp x)) →
      a.eval (.tmp yD) = vd → a.eval (.tmp yE) = VE ke → Below W.heap.size W w → w.ownsRow W.heap.size t size vd n fs → w.heap[ke]? = some (OE kg) →
      (∀ v' w', w'.ownsRow W.heap.size t size v' n' (fs ++ xs kg) → w.grownBy w' vd.ownBlock → (v'.ownBlock = vd.ownBlock ∨ v'.ownBlock = some w.heap.size) → K (a.put (some yF) v') w') →
      if Region.wanted oF (yielded ops a.tmps) = true then Oper.wp P oF a w K Q else K (a.put oF.dst undef) w)
    (h : ∀ a, (pA = true ∨ a = true) → ∀ ka kb kg ke vd vf w, Dia W t size fs xs n n' pA pG OA OG OE a true true true true true ka kb kg ke vd vf w → S w → wpAnyH P md ops Q S (N + (!a).toNat) (dL iA iB iD iG iE iF L0 a true true true true true) (dT dA dG VA VG VE yB yD yE yF a0 a true true true true true ka kb kg ke vd vf) w) :
    ∀ (k : Nat) (a b d g e f : Bool), dReach pA pG a b d g e f = true → dCnt a b d g e f = k → ∀ ka kb kg ke vd vf w, Dia W t size fs xs n n' pA pG OA OG OE a b d g e f ka kb kg ke vd vf w → wpAnyH P md ops Q S (N + k) (dL iA iB iD iG iE iF L0 a b d g e f) (dT dA dG VA VG VE yB yD yE yF a0 a b d g e f ka kb kg ke vd vf) w := by
  obtain ⟨⟨p1, p2, p3, p4, p5⟩, ⟨p6, p7, p8, p9⟩, ⟨p10, p11, p12⟩, ⟨p13, p14⟩, p15⟩ := hap
  obtain ⟨⟨j1, j2, j3, j4, j5⟩, ⟨j6, j7, j8, j9⟩, ⟨j10, j11, j12⟩, ⟨j13, j14⟩, j15⟩ := hij
  have agr : ∀ (a b d g e f : Bool) ka kb kg ke vd vf, ∀ x, dA ≠ some x → some yB ≠ some x → some yD ≠ some x → dG ≠ some x → some yE ≠ some x → some yF ≠ some x → (dT dA dG VA VG VE yB yD yE yF a0 a b d g e f ka kb kg ke vd vf).eval (.tmp x) = a0.eval (.tmp x) := by
    intro a b d g e f ka kb kg ke vd vf x h1 h2 h3 h4 h5 h6
    unfold dT
    rw [eval_putIf_ne h1, eval_putIf_ne h2, eval_putIf_ne h3, eval_putIf_ne h4, eval_putIf_ne h5, eval_putIf_ne h6]
  have eB : ∀ (a d g e f : Bool) ka kb kg ke vd vf, (dT dA dG VA VG VE yB yD yE yF a0 a true d g e f ka kb kg ke vd vf).eval (.tmp yB) = .slice (some ⟨kb, 0, none⟩) 0 0 := by
    intro a d g e f ka kb kg ke vd vf
    unfold dT
    rw [eval_putIf_ne (fun x => p1 _ x rfl), eval_putIf_eq (by simpa [putIf_size] using hyB)]
  have eD : ∀ (a b g e f : Bool) ka kb kg ke vd vf, (dT dA dG VA VG VE yB yD yE yF a0 a b true g e f ka kb kg ke vd vf).eval (.tmp yD) = vd := by
    intro a b g e f ka kb kg ke vd vf
    unfold dT
    rw [eval_putIf_ne (fun x => p2 _ x rfl), eval_putIf_ne (fun x => p6 _ x rfl), eval_putIf_eq (by simpa [putIf_size] using hyD)]
  have eG : ∀ (a b d e f : Bool) ka kb kg ke vd vf, ∀ y, dG = some y → (dT dA dG VA VG VE yB yD yE yF a0 a b d true e f ka kb kg ke vd vf).eval (.tmp y) = VG kg := by
    intro a b d e f ka kb kg ke vd vf y hy
    unfold dT
    rw [eval_putIf_ne (fun x => p3 _ x hy), eval_putIf_ne (fun x => p7 _ x hy), eval_putIf_ne (fun x => p10 _ x hy)]
    subst hy
    exact eval_putIf_eq (by simpa [putIf_size] using hyG _ rfl)
  have eE : ∀ (a b d g f : Bool) ka kb kg ke vd vf, (dT dA dG VA VG VE yB yD yE yF a0 a b d g true f ka kb kg ke vd vf).eval (.tmp yE) = VE ke := by
    intro a b d g f ka kb kg ke vd vf
    unfold dT
    rw [eval_putIf_ne (fun x => p4 _ x rfl), eval_putIf_ne (fun x => p8 _ x rfl), eval_putIf_ne (fun x => p11 _ x rfl), eval_putIf_ne (fun x => p13 _ x rfl), eval_putIf_eq (by simpa [putIf_size] using hyE)]
  have fin : ∀ (k : Nat) (a b d g e : Bool), dReach pA pG a b d g e true = true → dCnt a b d g e true = k → ∀ ka kb kg ke vd vf w, Dia W t size fs xs n n' pA pG OA OG OE a b d g e true ka kb kg ke vd vf w → wpAnyH P md ops Q S (N + k) (dL iA iB iD iG iE iF L0 a b d g e true) (dT dA dG VA VG VE yB yD yE yF a0 a b d g e true ka kb kg ke vd vf) w := by
    intro k a b d g e hr hc ka kb kg ke vd vf w hw
    unfold dReach at hr
    simp only [Bool.or_eq_true, Bool.and_eq_true, Bool.not_eq_true'] at hr
    obtain ⟨r1, r2, r3, r4, r5⟩ := hr
    obtain ⟨rfl, rfl⟩ := r5.resolve_left nofun
    obtain rfl := r3.resolve_left nofun
    obtain rfl := r4.resolve_left nofun
    have : k = (!a).toNat := by rw [← hc]; simp [dCnt]
    subst this
    exact h _ r1 _ _ _ _ _ _ w hw (hS _ hw.bel)
  intro k
  induction k with
  | zero =>
    intro a b d g e f hr hc ka kb kg ke vd vf w hw
    cases f with
    | true => exact fin 0 a b d g e hr hc _ _ _ _ _ _ w hw
    | false => simp [dCnt] at hc
  | succ k ih =>
    intro a b d g e f hr hc ka kb kg ke vd vf w hw
    by_cases hff : f = true
    · subst hff; exact fin _ a b d g e hr hc _ _ _ _ _ _ w hw
    obtain rfl : f = false := by simpa using hff
    clear hff
    have hall : ∀ x : Bool, x ∈ [false, true] := by decide
    have hq := List.all_eq_true.1 (List.all_eq_true.1 (List.all_eq_true.1 (List.all_eq_true.1 (List.all_eq_true.1 (List.all_eq_true.1 hok a (hall a)) b (hall b)) d (hall d)) g (hall g)) e (hall e)) false (hall false)
    rw [hr] at hq
    simp only [Bool.not_true, Bool.false_or, Bool.or_false, Bool.and_eq_true] at hq
    obtain ⟨hne, hrs⟩ := hq
    refine wpAnyH_all rfl (fun e0 => by rw [e0] at hne; simp at hne) (fun i hi => ?_)
    have hi' := List.all_eq_true.1 hrs i hi
    simp only [Bool.or_eq_true, Bool.and_eq_true, beq_iff_eq, Bool.not_eq_true'] at hi'
    unfold dReach at hr
    simp only [Bool.or_eq_true, Bool.and_eq_true, Bool.not_eq_true'] at hr
    obtain ⟨r1, r2, r3, r4, r5⟩ := hr
    rcases hi' with ⟨rfl, ha⟩ | ⟨rfl, hb⟩ | ⟨rfl, hb, hd⟩ | ⟨rfl, hg⟩ | ⟨rfl, hg, he⟩ | ⟨rfl, hd, he⟩
    · subst ha
      have hp : pA = true := r1.resolve_right nofun
      refine wpOp_step (hiA hp) (fun K hK => hA hp _ _ _ (hK _ _ ⟨hS _ hw.allocA.bel, ?_⟩))
      have := ih true b d g e false (dReach_mk (.inr rfl) (r2) (r3) (r4) (.inl rfl)) (by simp [dCnt] at hc ⊢; omega) _ _ _ _ _ _ _ hw.allocA
      unfold dL dT at *
      exact this
    · subst hb
      have hd : d = false := r3.resolve_right nofun
      subst hd
      refine wpOp_step hiB (fun K hK => hB _ _ _ (hK _ _ ⟨hS _ hw.allocB.bel, ?_⟩))
      have := ih a true false g e false (dReach_mk (r1) (r2) (.inl rfl) (r4) (.inl rfl)) (by simp [dCnt] at hc ⊢; omega) _ _ _ _ _ _ _ hw.allocB
      unfold dL dT at *
      rw [setIf_set j1, putIf_put p1]
      exact this
    · subst hb
      subst hd
      refine wpOp_step hiD (fun K hK => hD _ _ _ kb (agr _ _ _ _ _ _ _ _ _ _ _ _) (eB _ _ _ _ _ _ _ _ _ _ _) hw.bel (own_at (hw.B rfl rfl).2 (hw.B rfl rfl).1) (fun v' w' h1 h2 h3 => hK _ _ ⟨hS _ (hw.appD h1 h2 h3).bel, ?_⟩))
      have := ih a true true g e false (dReach_mk (r1) (r2) (.inr rfl) (r4) (.inl rfl)) (by simp [dCnt] at hc ⊢; omega) _ _ _ _ _ _ _ (hw.appD h1 h2 h3)
      unfold dL dT at *
      rw [setIf_set j2, setIf_set j6, putIf_put p2, putIf_put p6]
      exact this
    · subst hg
      have he : e = false := r4.resolve_right nofun
      subst he
      have hp : pG = true := r2.resolve_right nofun
      refine wpOp_step (hiG hp) (fun K hK => hG hp _ _ _ (agr _ _ _ _ _ _ _ _ _ _ _ _) (hK _ _ ⟨hS _ hw.allocG.bel, ?_⟩))
      have := ih a b d true false false (dReach_mk (r1) (.inr rfl) (r3) (.inl rfl) (.inl rfl)) (by simp [dCnt] at hc ⊢; omega) _ _ _ _ _ _ _ hw.allocG
      unfold dL dT at *
      rw [setIf_set j3, setIf_set j7, setIf_set j10, putIf_put p3, putIf_put p7, putIf_put p10]
      exact this
    · subst hg
      subst he
      refine wpOp_step hiE (fun K hK => hE _ _ _ kg (agr _ _ _ _ _ _ _ _ _ _ _ _) (fun _ => eG _ _ _ _ _ _ _ _ _ _ _) (hK _ _ ⟨hS _ hw.allocE.bel, ?_⟩))
      have := ih a b d true true false (dReach_mk (r1) (.inr rfl) (r3) (.inr rfl) (.inl rfl)) (by simp [dCnt] at hc ⊢; omega) _ _ _ _ _ _ _ hw.allocE
      unfold dL dT at *
      rw [setIf_set j4, setIf_set j8, setIf_set j11, setIf_set j13, putIf_put p4, putIf_put p8, putIf_put p11, putIf_put p13]
      exact this
    · subst hd
      subst he
      have hb : b = true := r3.resolve_left nofun
      subst hb
      refine wpOp_step hiF (fun K hK => hF _ _ _ kg ke vd (agr _ _ _ _ _ _ _ _ _ _ _ _) (eD _ _ _ _ _ _ _ _ _ _ _) (eE _ _ _ _ _ _ _ _ _ _ _) hw.bel (hw.D rfl rfl) (hw.E rfl rfl).2 (fun v' w' h1 h2 h3 => hK _ _ ⟨hS _ (hw.appF h1 h2 h3).bel, ?_⟩))
      have := ih a true true g true true (dReach_mk (r1) (r2) (.inr rfl) (r4) (.inr ⟨rfl, rfl⟩)) (by simp [dCnt] at hc ⊢; omega) _ _ _ _ _ _ _ (hw.appF h1 h2 h3)
      unfold dL dT at *
      rw [setIf_set j5, setIf_set j9, setIf_set j12, setIf_set j14, setIf_set j15, putIf_put p5, putIf_put p9, putIf_put p12, putIf_put p14, putIf_put p15]
      exact this

theorem dia_A (W : World) (t : TypeId) (size : Nat) (fs : List Value) (xs : List Value) (n n' : Nat) (OA : Obj) (OE : Obj) (VA : Nat → Value) (VE : Nat → Value)
    {iA iB iD iE iF : Nat} {yA yB yD yE yF : Nat} {oA oB oD oE oF : Oper} {a0 : Act} {L0 : Array Bool} {N : Nat} {w : World}
    (hiA : ops[iA]? = some oA) (hiB : ops[iB]? = some oB) (hiD : ops[iD]? = some oD) (hiE : ops[iE]? = some oE) (hiF : ops[iF]? = some oF)
    (hok : dOk md ops L0 iA iB iD (ops.size + 1) iE iF true false = true) (hap : [yA, yB, yD, yE, yF].Nodup) (hsz : yA < a0.tmps.size ∧ yB < a0.tmps.size ∧ yD < a0.tmps.size ∧ yE < a0.tmps.size ∧ yF < a0.tmps.size) (hij : [iA, iB, iD, iE, iF].Nodup) (hL : L0.size = ops.size)
    (hS : ∀ w, Below W.heap.size W w → S w)
    (hA : ∀ (a : Act) (w : World) (K : Act → World → Prop), K (a.put (some yA) (VA w.heap.size)) (w.alloc OA) → if Region.wanted oA (yielded ops a.tmps) = true then Oper.wp P oA a w K Q else K (a.put oA.dst undef) w)
    (hB : ∀ (a : Act) (w : World) (K : Act → World → Prop), K (a.put (some yB) (.slice (some ⟨w.heap.size, 0, none⟩) 0 0)) (w.alloc (.cells #[] t (0, 0))) → if Region.wanted oB (yielded ops a.tmps) = true then Oper.wp P oB a w K Q else K (a.put oB.dst undef) w)
    (hE : ∀ (a : Act) (w : World) (K : Act → World → Prop), (∀ x, yA ≠ x → yB ≠ x → yD ≠ x → yE ≠ x → yF ≠ x → a.eval (.tmp x) = a0.eval (.tmp x)) → K (a.put (some yE) (VE w.heap.size)) (w.alloc OE) → if Region.wanted oE (yielded ops a.tmps) = true then Oper.wp P oE a w K Q else K (a.put oE.dst undef) w)
    (hD : ∀ (a : Act) (w : World) (K : Act → World → Prop) (kb : Nat), (∀ x, yA ≠ x → yB ≠ x → yD ≠ x → yE ≠ x → yF ≠ x → a.eval (.tmp x) = a0.eval (.tmp x)) → a.eval (.tmp yB) = .slice (some ⟨kb, 0, none⟩) 0 0 → Below W.heap.size W w → w.ownsRow W.heap.size t size (.slice (some ⟨kb, 0, none⟩) 0 0) 0 [] →
      (∀ v' w', w'.ownsRow W.heap.size t size v' n fs → w.grownBy w' (some kb) → (v'.ownBlock = some kb ∨ v'.ownBlock = some w.heap.size) → K (a.put (some yD) v') w') → if Region.wanted oD (yielded ops a.tmps) = true then Oper.wp P oD a w K Q else K (a.put oD.dst undef) w)
    (hF : ∀ (a : Act) (w : World) (K : Act → World → Prop) (ke : Nat) (vd : Value), (∀ x, yA ≠ x → yB ≠ x → yD ≠ x → yE ≠ x → yF ≠ x → a.eval (.tmp x) = a0.eval (.tmp x)) → a.eval (.tmp yD) = vd → a.eval (.tmp yE) = VE ke → Below W.heap.size W w → w.ownsRow W.heap.size t size vd n fs → w.heap[ke]? = some OE →
      (∀ v' w', w'.ownsRow W.heap.size t size v' n' (fs ++ xs) → w.grownBy w' vd.ownBlock → (v'.ownBlock = vd.ownBlock ∨ v'.ownBlock = some w.heap.size) → K (a.put (some yF) v') w') → if Region.wanted oF (yielded ops a.tmps) = true then Oper.wp P oF a w K Q else K (a.put oF.dst undef) w)
    (h : ∀ (ka kb ke : Nat) (vd vf : Value) (w : World), Below W.heap.size W w → W.heap.size ≤ ka → w.heap[ka]? = some OA → vf.ownBlock ≠ some ka → w.ownsRow W.heap.size t size vf n' (fs ++ xs) → S w →
      wpAnyH P md ops Q S N (((((L0.setIfInBounds iF true).setIfInBounds iE true).setIfInBounds iD true).setIfInBounds iB true).setIfInBounds iA true) (((((a0.put (some yF) vf).put (some yE) (VE ke)).put (some yD) vd).put (some yB) (.slice (some ⟨kb, 0, none⟩) 0 0)).put (some yA) (VA ka)) w)
    (h0 : ∀ (kb ke : Nat) (vd vf : Value) (w : World), Below W.heap.size W w → w.ownsRow W.heap.size t size vf n' (fs ++ xs) → S w →
      wpAnyH P md ops Q S (N + 1) ((((L0.setIfInBounds iF true).setIfInBounds iE true).setIfInBounds iD true).setIfInBounds iB true) ((((a0.put (some yF) vf).put (some yE) (VE ke)).put (some yD) vd).put (some yB) (.slice (some ⟨kb, 0, none⟩) 0 0)) w)
    (hw : Below W.heap.size W w) : wpAnyH P md ops Q S (N + 5) L0 a0 w := by
  simp only [List.nodup_cons, List.mem_cons, List.not_mem_nil, or_false, not_or, List.nodup_nil, and_true, not_false_eq_true] at hap hij
  have so : ∀ {x y : Nat}, x ≠ y → apartT (some x) (some y) := fun h1 d e e' => by injection e; injection e'; omega
  have sn : ∀ {x : Option Tmp}, apartT none x := nofun
  have sm : ∀ {x : Option Tmp}, apartT x none := fun _ _ => nofun
  have lA : iA < ops.size := (Array.getElem?_eq_some_iff.1 hiA).1
  have lB : iB < ops.size := (Array.getElem?_eq_some_iff.1 hiB).1
  have lD : iD < ops.size := (Array.getElem?_eq_some_iff.1 hiD).1
  have lE : iE < ops.size := (Array.getElem?_eq_some_iff.1 hiE).1
  have lF : iF < ops.size := (Array.getElem?_eq_some_iff.1 hiF).1
  have hap' : apart6 (some yA) none yB yD yE yF := by refine ⟨⟨?_, ?_, ?_, ?_, ?_⟩, ⟨?_, ?_, ?_, ?_⟩, ⟨?_, ?_, ?_⟩, ⟨?_, ?_⟩, ?_⟩ <;> first | exact sn | exact sm | exact so (by simp [hap]) | exact so (by omega)
  have hij' : (iA ≠ iB ∧ iA ≠ iD ∧ iA ≠ (ops.size + 1) ∧ iA ≠ iE ∧ iA ≠ iF) ∧ (iB ≠ iD ∧ iB ≠ (ops.size + 1) ∧ iB ≠ iE ∧ iB ≠ iF) ∧ (iD ≠ (ops.size + 1) ∧ iD ≠ iE ∧ iD ≠ iF) ∧ ((ops.size + 1) ≠ iE ∧ (ops.size + 1) ≠ iF) ∧ iE ≠ iF := by refine ⟨⟨?_, ?_, ?_, ?_, ?_⟩, ⟨?_, ?_, ?_, ?_⟩, ⟨?_, ?_, ?_⟩, ⟨?_, ?_⟩, ?_⟩ <;> omega
  have M := dia_walk (P := P) (ops := ops) (Q := Q) (md := md) (S := S) W t size fs (fun _ => xs) n n' true false OA default (fun _ => OE) VA (fun _ => undef) VE (iA := iA) (iB := iB) (iD := iD) (iG := (ops.size + 1)) (iE := iE) (iF := iF) (dA := (some yA)) (dG := none) (yB := yB) (yD := yD) (yE := yE) (yF := yF) (oA := oA) (oB := oB) (oD := oD) (oG := oB) (oE := oE) (oF := oF) (a0 := a0) (L0 := L0) (N := N)
    (fun _ => hiA) hiB hiD nofun hiE hiF hok hap' (by omega) (by omega) (by omega) nofun hij' hS
    (fun _ => hA) hB nofun
    (fun a w K kg hag hg => hE a w K (fun x hA hB hD hE hF => hag x (fun e => hA (by injection e)) (fun e => hB (by injection e)) (fun e => hD (by injection e)) nofun (fun e => hE (by injection e)) (fun e => hF (by injection e))))
    (fun a w K kb hag => hD a w K kb (fun x hA hB hD hE hF => hag x (fun e => hA (by injection e)) (fun e => hB (by injection e)) (fun e => hD (by injection e)) nofun (fun e => hE (by injection e)) (fun e => hF (by injection e))))
    (fun a w K kg ke vd hag => hF a w K ke vd (fun x hA hB hD hE hF => hag x (fun e => hA (by injection e)) (fun e => hB (by injection e)) (fun e => hD (by injection e)) nofun (fun e => hE (by injection e)) (fun e => hF (by injection e))))
    (fun a hr ka kb kg ke vd vf w hd hs => by
      cases a
      · have := h0 kb ke vd vf w hd.bel (hd.F rfl) hs
        unfold dL dT setIf putIf
        simp only [if_true, Bool.false_eq_true, if_false]
        rw [Array.setIfInBounds_eq_of_size_le (xs := ((L0.setIfInBounds iF true).setIfInBounds iE true)) (i := ops.size + 1) (by simp [hL])]
        exact this
      · have := h ka kb ke vd vf w hd.bel (hd.A rfl rfl).1 (hd.A rfl rfl).2 (hd.AF rfl rfl rfl) (hd.F rfl) hs
        unfold dL dT setIf putIf
        simp only [if_true]
        rw [Array.setIfInBounds_eq_of_size_le (xs := ((L0.setIfInBounds iF true).setIfInBounds iE true)) (i := ops.size + 1) (by simp [hL])]
        exact this)
    5 false false false true false false rfl rfl 0 0 0 0 undef undef w
    { bel := hw, A := nofun, B := nofun, D := nofun, G := fun _ => nofun, E := nofun, F := nofun, AB := nofun, AD := nofun, AF := nofun, GB := fun _ => nofun, GD := fun _ => nofun, GF := fun _ => nofun, EB := nofun, ED := nofun }
  unfold dL dT setIf putIf at M
  simp only [if_true, Bool.false_eq_true, if_false] at M
  rw [Array.setIfInBounds_eq_of_size_le (i := ops.size + 1) (by simp [hL])] at M
  exact M

theorem dia_AG (W : World) (t : TypeId) (size : Nat) (fs : List Value) (xs : Nat → List Value) (n n' : Nat) (OA : Obj) (OG : Obj) (OE : Nat → Obj) (VA : Nat → Value) (VG : Nat → Value) (VE : Nat → Value)
    {iA iB iD iG iE iF : Nat} {yA yB yD yG yE yF : Nat} {oA oB oD oG oE oF : Oper} {a0 : Act} {L0 : Array Bool} {N : Nat} {w : World}
    (hiA : ops[iA]? = some oA) (hiB : ops[iB]? = some oB) (hiD : ops[iD]? = some oD) (hiG : ops[iG]? = some oG) (hiE : ops[iE]? = some oE) (hiF : ops[iF]? = some oF)
    (hok : dOk md ops L0 iA iB iD iG iE iF true true = true) (hap : [yA, yB, yD, yG, yE, yF].Nodup) (hsz : yA < a0.tmps.size ∧ yB < a0.tmps.size ∧ yD < a0.tmps.size ∧ yG < a0.tmps.size ∧ yE < a0.tmps.size ∧ yF < a0.tmps.size) (hij : [iA, iB, iD, iG, iE, iF].Nodup)
    (hS : ∀ w, Below W.heap.size W w → S w)
    (hA : ∀ (a : Act) (w : World) (K : Act → World → Prop), K (a.put (some yA) (VA w.heap.size)) (w.alloc OA) → if Region.wanted oA (yielded ops a.tmps) = true then Oper.wp P oA a w K Q else K (a.put oA.dst undef) w)
    (hB : ∀ (a : Act) (w : World) (K : Act → World → Prop), K (a.put (some yB) (.slice (some ⟨w.heap.size, 0, none⟩) 0 0)) (w.alloc (.cells #[] t (0, 0))) → if Region.wanted oB (yielded ops a.tmps) = true then Oper.wp P oB a w K Q else K (a.put oB.dst undef) w)
    (hG : ∀ (a : Act) (w : World) (K : Act → World → Prop), (∀ x, yA ≠ x → yB ≠ x → yD ≠ x → yG ≠ x → yE ≠ x → yF ≠ x → a.eval (.tmp x) = a0.eval (.tmp x)) → K (a.put (some yG) (VG w.heap.size)) (w.alloc OG) → if Region.wanted oG (yielded ops a.tmps) = true then Oper.wp P oG a w K Q else K (a.put oG.dst undef) w)
    (hE : ∀ (a : Act) (w : World) (K : Act → World → Prop) (kg : Nat), (∀ x, yA ≠ x → yB ≠ x → yD ≠ x → yG ≠ x → yE ≠ x → yF ≠ x → a.eval (.tmp x) = a0.eval (.tmp x)) → a.eval (.tmp yG) = VG kg → K (a.put (some yE) (VE w.heap.size)) (w.alloc (OE kg)) → if Region.wanted oE (yielded ops a.tmps) = true then Oper.wp P oE a w K Q else K (a.put oE.dst undef) w)
    (hD : ∀ (a : Act) (w : World) (K : Act → World → Prop) (kb : Nat), (∀ x, yA ≠ x → yB ≠ x → yD ≠ x → yG ≠ x → yE ≠ x → yF ≠ x → a.eval (.tmp x) = a0.eval (.tmp x)) → a.eval (.tmp yB) = .slice (some ⟨kb, 0, none⟩) 0 0 → Below W.heap.size W w → w.ownsRow W.heap.size t size (.slice (some ⟨kb, 0, none⟩) 0 0) 0 [] →
      (∀ v' w', w'.ownsRow W.heap.size t size v' n fs → w.grownBy w' (some kb) → (v'.ownBlock = some kb ∨ v'.ownBlock = some w.heap.size) → K (a.put (some yD) v') w') → if Region.wanted oD (yielded ops a.tmps) = true then Oper.wp P oD a w K Q else K (a.put oD.dst undef) w)
    (hF : ∀ (a : Act) (w : World) (K : Act → World → Prop) (kg : Nat) (ke : Nat) (vd : Value), (∀ x, yA ≠ x → yB ≠ x → yD ≠ x → yG ≠ x → yE ≠ x → yF ≠ x → a.eval (.tmp x) = a0.eval (.tmp x)) → a.eval (.tmp yD) = vd → a.eval (.tmp yE) = VE ke → Below W.heap.size W w → w.ownsRow W.heap.size t size vd n fs → w.heap[ke]? = some (OE kg) →
      (∀ v' w', w'.ownsRow W.heap.size t size v' n' (fs ++ xs kg) → w.grownBy w' vd.ownBlock → (v'.ownBlock = vd.ownBlock ∨ v'.ownBlock = some w.heap.size) → K (a.put (some yF) v') w') → if Region.wanted oF (yielded ops a.tmps) = true then Oper.wp P oF a w K Q else K (a.put oF.dst undef) w)
    (h : ∀ (ka kb kg ke : Nat) (vd vf : Value) (w : World), Below W.heap.size W w → W.heap.size ≤ ka → w.heap[ka]? = some OA → vf.ownBlock ≠ some ka → W.heap.size ≤ kg → w.heap[kg]? = some OG → vf.ownBlock ≠ some kg → w.ownsRow W.heap.size t size vf n' (fs ++ xs kg) → S w →
      wpAnyH P md ops Q S N ((((((L0.setIfInBounds iF true).setIfInBounds iE true).setIfInBounds iG true).setIfInBounds iD true).setIfInBounds iB true).setIfInBounds iA true) ((((((a0.put (some yF) vf).put (some yE) (VE ke)).put (some yG) (VG kg)).put (some yD) vd).put (some yB) (.slice (some ⟨kb, 0, none⟩) 0 0)).put (some yA) (VA ka)) w)
    (h0 : ∀ (kb kg ke : Nat) (vd vf : Value) (w : World), Below W.heap.size W w → W.heap.size ≤ kg → w.heap[kg]? = some OG → vf.ownBlock ≠ some kg → w.ownsRow W.heap.size t size vf n' (fs ++ xs kg) → S w →
      wpAnyH P md ops Q S (N + 1) (((((L0.setIfInBounds iF true).setIfInBounds iE true).setIfInBounds iG true).setIfInBounds iD true).setIfInBounds iB true) (((((a0.put (some yF) vf).put (some yE) (VE ke)).put (some yG) (VG kg)).put (some yD) vd).put (some yB) (.slice (some ⟨kb, 0, none⟩) 0 0)) w)
    (hw : Below W.heap.size W w) : wpAnyH P md ops Q S (N + 6) L0 a0 w := by
  simp only [List.nodup_cons, List.mem_cons, List.not_mem_nil, or_false, not_or, List.nodup_nil, and_true, not_false_eq_true] at hap hij
  have so : ∀ {x y : Nat}, x ≠ y → apartT (some x) (some y) := fun h1 d e e' => by injection e; injection e'; omega
  have sn : ∀ {x : Option Tmp}, apartT none x := nofun
  have sm : ∀ {x : Option Tmp}, apartT x none := fun _ _ => nofun
  have lA : iA < ops.size := (Array.getElem?_eq_some_iff.1 hiA).1
  have lB : iB < ops.size := (Array.getElem?_eq_some_iff.1 hiB).1
  have lD : iD < ops.size := (Array.getElem?_eq_some_iff.1 hiD).1
  have lG : iG < ops.size := (Array.getElem?_eq_some_iff.1 hiG).1
  have lE : iE < ops.size := (Array.getElem?_eq_some_iff.1 hiE).1
  have lF : iF < ops.size := (Array.getElem?_eq_some_iff.1 hiF).1
  have hap' : apart6 (some yA) (some yG) yB yD yE yF := by refine ⟨⟨?_, ?_, ?_, ?_, ?_⟩, ⟨?_, ?_, ?_, ?_⟩, ⟨?_, ?_, ?_⟩, ⟨?_, ?_⟩, ?_⟩ <;> first | exact sn | exact sm | exact so (by simp [hap]) | exact so (by omega)
  have hij' : (iA ≠ iB ∧ iA ≠ iD ∧ iA ≠ iG ∧ iA ≠ iE ∧ iA ≠ iF) ∧ (iB ≠ iD ∧ iB ≠ iG ∧ iB ≠ iE ∧ iB ≠ iF) ∧ (iD ≠ iG ∧ iD ≠ iE ∧ iD ≠ iF) ∧ (iG ≠ iE ∧ iG ≠ iF) ∧ iE ≠ iF := by refine ⟨⟨?_, ?_, ?_, ?_, ?_⟩, ⟨?_, ?_, ?_, ?_⟩, ⟨?_, ?_, ?_⟩, ⟨?_, ?_⟩, ?_⟩ <;> omega
  have M := dia_walk (P := P) (ops := ops) (Q := Q) (md := md) (S := S) W t size fs xs n n' true true OA OG OE VA VG VE (iA := iA) (iB := iB) (iD := iD) (iG := iG) (iE := iE) (iF := iF) (dA := (some yA)) (dG := (some yG)) (yB := yB) (yD := yD) (yE := yE) (yF := yF) (oA := oA) (oB := oB) (oD := oD) (oG := oG) (oE := oE) (oF := oF) (a0 := a0) (L0 := L0) (N := N)
    (fun _ => hiA) hiB hiD (fun _ => hiG) hiE hiF hok hap' (by omega) (by omega) (by omega) (fun y e => by cases e; exact hsz.2.2.2.1) hij' hS
    (fun _ => hA) hB (fun _ a w K hag => hG a w K (fun x hA hB hD hG hE hF => hag x (fun e => hA (by injection e)) (fun e => hB (by injection e)) (fun e => hD (by injection e)) (fun e => hG (by injection e)) (fun e => hE (by injection e)) (fun e => hF (by injection e))))
    (fun a w K kg hag hg => hE a w K kg (fun x hA hB hD hG hE hF => hag x (fun e => hA (by injection e)) (fun e => hB (by injection e)) (fun e => hD (by injection e)) (fun e => hG (by injection e)) (fun e => hE (by injection e)) (fun e => hF (by injection e))) (hg rfl _ rfl))
    (fun a w K kb hag => hD a w K kb (fun x hA hB hD hG hE hF => hag x (fun e => hA (by injection e)) (fun e => hB (by injection e)) (fun e => hD (by injection e)) (fun e => hG (by injection e)) (fun e => hE (by injection e)) (fun e => hF (by injection e))))
    (fun a w K kg ke vd hag => hF a w K kg ke vd (fun x hA hB hD hG hE hF => hag x (fun e => hA (by injection e)) (fun e => hB (by injection e)) (fun e => hD (by injection e)) (fun e => hG (by injection e)) (fun e => hE (by injection e)) (fun e => hF (by injection e))))
    (fun a hr ka kb kg ke vd vf w hd hs => by
      cases a
      · have := h0 kb kg ke vd vf w hd.bel (hd.G rfl rfl).1 (hd.G rfl rfl).2 (hd.GF rfl rfl rfl) (hd.F rfl) hs
        unfold dL dT setIf putIf
        simp only [if_true, Bool.false_eq_true, if_false]
        exact this
      · have := h ka kb kg ke vd vf w hd.bel (hd.A rfl rfl).1 (hd.A rfl rfl).2 (hd.AF rfl rfl rfl) (hd.G rfl rfl).1 (hd.G rfl rfl).2 (hd.GF rfl rfl rfl) (hd.F rfl) hs
        unfold dL dT setIf putIf
        simp only [if_true]
        exact this)
    6 false false false false false false rfl rfl 0 0 0 0 undef undef w
    { bel := hw, A := nofun, B := nofun, D := nofun, G := nofun, E := nofun, F := nofun, AB := nofun, AD := nofun, AF := nofun, GB := nofun, GD := nofun, GF := nofun, EB := nofun, ED := nofun }
  unfold dL dT setIf putIf at M
  simp only [Bool.false_eq_true, if_false] at M
  exact M

theorem dia_0 (W : World) (t : TypeId) (size : Nat) (fs : List Value) (xs : List Value) (n n' : Nat) (OE : Obj) (VE : Nat → Value)
    {iB iD iE iF : Nat} {yB yD yE yF : Nat} {oB oD oE oF : Oper} {a0 : Act} {L0 : Array Bool} {N : Nat} {w : World}
    (hiB : ops[iB]? = some oB) (hiD : ops[iD]? = some oD) (hiE : ops[iE]? = some oE) (hiF : ops[iF]? = some oF)
    (hok : dOk md ops L0 ops.size iB iD (ops.size + 1) iE iF false false = true) (hap : [yB, yD, yE, yF].Nodup) (hsz : yB < a0.tmps.size ∧ yD < a0.tmps.size ∧ yE < a0.tmps.size ∧ yF < a0.tmps.size) (hij : [iB, iD, iE, iF].Nodup) (hL : L0.size = ops.size)
    (hS : ∀ w, Below W.heap.size W w → S w)
    (hB : ∀ (a : Act) (w : World) (K : Act → World → Prop), K (a.put (some yB) (.slice (some ⟨w.heap.size, 0, none⟩) 0 0)) (w.alloc (.cells #[] t (0, 0))) → if Region.wanted oB (yielded ops a.tmps) = true then Oper.wp P oB a w K Q else K (a.put oB.dst undef) w)
    (hE : ∀ (a : Act) (w : World) (K : Act → World → Prop), (∀ x, yB ≠ x → yD ≠ x → yE ≠ x → yF ≠ x → a.eval (.tmp x) = a0.eval (.tmp x)) → K (a.put (some yE) (VE w.heap.size)) (w.alloc OE) → if Region.wanted oE (yielded ops a.tmps) = true then Oper.wp P oE a w K Q else K (a.put oE.dst undef) w)
    (hD : ∀ (a : Act) (w : World) (K : Act → World → Prop) (kb : Nat), (∀ x, yB ≠ x → yD ≠ x → yE ≠ x → yF ≠ x → a.eval (.tmp x) = a0.eval (.tmp x)) → a.eval (.tmp yB) = .slice (some ⟨kb, 0, none⟩) 0 0 → Below W.heap.size W w → w.ownsRow W.heap.size t size (.slice (some ⟨kb, 0, none⟩) 0 0) 0 [] →
      (∀ v' w', w'.ownsRow W.heap.size t size v' n fs → w.grownBy w' (some kb) → (v'.ownBlock = some kb ∨ v'.ownBlock = some w.heap.size) → K (a.put (some yD) v') w') → if Region.wanted oD (yielded ops a.tmps) = true then Oper.wp P oD a w K Q else K (a.put oD.dst undef) w)
    (hF : ∀ (a : Act) (w : World) (K : Act → World → Prop) (ke : Nat) (vd : Value), (∀ x, yB ≠ x → yD ≠ x → yE ≠ x → yF ≠ x → a.eval (.tmp x) = a0.eval (.tmp x)) → a.eval (.tmp yD) = vd → a.eval (.tmp yE) = VE ke → Below W.heap.size W w → w.ownsRow W.heap.size t size vd n fs → w.heap[ke]? = some OE →
      (∀ v' w', w'.ownsRow W.heap.size t size v' n' (fs ++ xs) → w.grownBy w' vd.ownBlock → (v'.ownBlock = vd.ownBlock ∨ v'.ownBlock = some w.heap.size) → K (a.put (some yF) v') w') → if Region.wanted oF (yielded ops a.tmps) = true then Oper.wp P oF a w K Q else K (a.put oF.dst undef) w)
    (h : ∀ (kb ke : Nat) (vd vf : Value) (w : World), Below W.heap.size W w → w.ownsRow W.heap.size t size vf n' (fs ++ xs) → S w →
      wpAnyH P md ops Q S N ((((L0.setIfInBounds iF true).setIfInBounds iE true).setIfInBounds iD true).setIfInBounds iB true) ((((a0.put (some yF) vf).put (some yE) (VE ke)).put (some yD) vd).put (some yB) (.slice (some ⟨kb, 0, none⟩) 0 0)) w)
    (hw : Below W.heap.size W w) : wpAnyH P md ops Q S (N + 4) L0 a0 w := by
  simp only [List.nodup_cons, List.mem_cons, List.not_mem_nil, or_false, not_or, List.nodup_nil, and_true, not_false_eq_true] at hap hij
  have so : ∀ {x y : Nat}, x ≠ y → apartT (some x) (some y) := fun h1 d e e' => by injection e; injection e'; omega
  have sn : ∀ {x : Option Tmp}, apartT none x := nofun
  have sm : ∀ {x : Option Tmp}, apartT x none := fun _ _ => nofun
  have lB : iB < ops.size := (Array.getElem?_eq_some_iff.1 hiB).1
  have lD : iD < ops.size := (Array.getElem?_eq_some_iff.1 hiD).1
  have lE : iE < ops.size := (Array.getElem?_eq_some_iff.1 hiE).1
  have lF : iF < ops.size := (Array.getElem?_eq_some_iff.1 hiF).1
  have hap' : apart6 none none yB yD yE yF := by refine ⟨⟨?_, ?_, ?_, ?_, ?_⟩, ⟨?_, ?_, ?_, ?_⟩, ⟨?_, ?_, ?_⟩, ⟨?_, ?_⟩, ?_⟩ <;> first | exact sn | exact sm | exact so (by simp [hap]) | exact so (by omega)
  have hij' : (ops.size ≠ iB ∧ ops.size ≠ iD ∧ ops.size ≠ (ops.size + 1) ∧ ops.size ≠ iE ∧ ops.size ≠ iF) ∧ (iB ≠ iD ∧ iB ≠ (ops.size + 1) ∧ iB ≠ iE ∧ iB ≠ iF) ∧ (iD ≠ (ops.size + 1) ∧ iD ≠ iE ∧ iD ≠ iF) ∧ ((ops.size + 1) ≠ iE ∧ (ops.size + 1) ≠ iF) ∧ iE ≠ iF := by refine ⟨⟨?_, ?_, ?_, ?_, ?_⟩, ⟨?_, ?_, ?_, ?_⟩, ⟨?_, ?_, ?_⟩, ⟨?_, ?_⟩, ?_⟩ <;> omega
  have M := dia_walk (P := P) (ops := ops) (Q := Q) (md := md) (S := S) W t size fs (fun _ => xs) n n' false false default default (fun _ => OE) (fun _ => undef) (fun _ => undef) VE (iA := ops.size) (iB := iB) (iD := iD) (iG := (ops.size + 1)) (iE := iE) (iF := iF) (dA := none) (dG := none) (yB := yB) (yD := yD) (yE := yE) (yF := yF) (oA := oB) (oB := oB) (oD := oD) (oG := oB) (oE := oE) (oF := oF) (a0 := a0) (L0 := L0) (N := N)
    nofun hiB hiD nofun hiE hiF hok hap' (by omega) (by omega) (by omega) nofun hij' hS
    nofun hB nofun
    (fun a w K kg hag hg => hE a w K (fun x hB hD hE hF => hag x nofun (fun e => hB (by injection e)) (fun e => hD (by injection e)) nofun (fun e => hE (by injection e)) (fun e => hF (by injection e))))
    (fun a w K kb hag => hD a w K kb (fun x hB hD hE hF => hag x nofun (fun e => hB (by injection e)) (fun e => hD (by injection e)) nofun (fun e => hE (by injection e)) (fun e => hF (by injection e))))
    (fun a w K kg ke vd hag => hF a w K ke vd (fun x hB hD hE hF => hag x nofun (fun e => hB (by injection e)) (fun e => hD (by injection e)) nofun (fun e => hE (by injection e)) (fun e => hF (by injection e))))
    (fun a hr ka kb kg ke vd vf w hd hs => by
      cases a
      · simp at hr
      · have := h kb ke vd vf w hd.bel (hd.F rfl) hs
        unfold dL dT setIf putIf
        simp only [if_true]
        rw [Array.setIfInBounds_eq_of_size_le (xs := ((L0.setIfInBounds iF true).setIfInBounds iE true)) (i := ops.size + 1) (by simp [hL])]
        rw [Array.setIfInBounds_eq_of_size_le (i := ops.size) (by simp [hL])]
        exact this)
    4 true false false true false false rfl rfl 0 0 0 0 undef undef w
    { bel := hw, A := fun _ => nofun, B := nofun, D := nofun, G := fun _ => nofun, E := nofun, F := nofun, AB := fun _ => nofun, AD := fun _ => nofun, AF := fun _ => nofun, GB := fun _ => nofun, GD := fun _ => nofun, GF := fun _ => nofun, EB := nofun, ED := nofun }
  unfold dL dT setIf putIf at M
  simp only [if_true, Bool.false_eq_true, if_false] at M
  rw [Array.setIfInBounds_eq_of_size_le (i := ops.size + 1) (by simp [hL])] at M
  rw [Array.setIfInBounds_eq_of_size_le (i := ops.size) (by simp [hL])] at M
  exact M
end
end Go.Proofs.Yteeaafdgkepaeaa
