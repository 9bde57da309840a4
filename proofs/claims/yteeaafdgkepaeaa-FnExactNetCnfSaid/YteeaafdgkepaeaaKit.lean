/- Small lemmas for all laws of this seat: arguments that a law leaves alone read behind the call as they read before. No condition. -/
import Derived.Test.YteeaafdgkepaeaaRows
import Derived.WalkKit
import Derived.ProofKit
import Derived.OpenShut
import Derived.ShutString
import Derived.ChangeOld
import Derived.Below
import Derived.Lib.SmallJoins
namespace Go.Proofs.Yteeaafdgkepaeaa
open Go.ChangeShapes Go.WideShapes Go.ChangeAt Go.RowKit Go.Joins

theorem own : ownKnob Try.prog.godebug = none := by kernel_rfl
theorem laidOut : laidOutB Try.prog = true := by kernel_rfl

theorem trodAll_lt {H : Type} {enc : TypeId × Value → H} {P : Program} {W : World} : ∀ (ts : List TypeId) (vs : List Value) (ds : List (DataW H)) (ps : List MemPlace),
    DataW.TrodAll enc P W 0 (fun _ => true) true ts vs ds ps → ∀ x ∈ ps, x.block < W.heap.size
  | [], [], [], ps, h => by simp [DataW.TrodAll] at h; subst h; intro x hx; simp at hx
  | t :: ts, v :: vs, d :: ds, ps, h => by
    obtain ⟨p, q, h1, h2, rfl⟩ := h
    intro x hx
    rcases List.mem_append.1 hx with hx | hx
    · obtain ⟨m, hm⟩ := h1
      exact DataW.trod_lt m _ _ _ hm x hx
    · exact trodAll_lt ts vs ds q h2 x hx
  | [], [], _ :: _, _, h => by simp [DataW.TrodAll] at h
  | [], _ :: _, _, _, h => by simp [DataW.TrodAll] at h
  | _ :: _, [], _, _, h => by simp [DataW.TrodAll] at h
  | _ :: _, _ :: _, [], _, h => by simp [DataW.TrodAll] at h

theorem trodAll_below {H : Type} {enc : TypeId × Value → H} {P : Program} (hl : laidOutB P = true) {W W' : World} (hb : Below W.heap.size W W') : ∀ (ts : List TypeId) (vs : List Value) (ds : List (DataW H)) (ps : List MemPlace),
    (ts.all fun t => P.readableRec t && decide (t < P.types.size)) = true →
    DataW.TrodAll enc P W 0 (fun _ => true) true ts vs ds ps → DataW.TrodAll enc P W' 0 (fun b => decide (b < W.heap.size)) true ts vs ds ps
  | [], [], [], ps, _, h => by simpa [DataW.TrodAll] using h
  | t :: ts, v :: vs, d :: ds, ps, hr, h => by
    simp only [List.all_cons, Bool.and_eq_true, decide_eq_true_eq] at hr
    have hall := trodAll_lt (t :: ts) (v :: vs) (d :: ds) ps h
    obtain ⟨p, q, h1, h2, rfl⟩ := h
    exact ⟨p, q, Below.trod hl hr.1.1 hr.1.2 h1 hb (fun x hx => hall x (List.mem_append.2 (.inl hx))), trodAll_below hl hb ts vs ds q hr.2 h2, rfl⟩
  | [], [], _ :: _, _, _, h => by simp [DataW.TrodAll] at h
  | [], _ :: _, _, _, _, h => by simp [DataW.TrodAll] at h
  | _ :: _, [], _, _, _, h => by simp [DataW.TrodAll] at h
  | _ :: _, _ :: _, [], _, _, h => by simp [DataW.TrodAll] at h

/-! ### The closed facts of a row, each a declaration of its own: the head's words by 'toList_ofList', which spares the kernel minutes and gigabytes -/
theorem joined_split {P : Program} {f : FuncId} {fn : Func} {s : ChangeSpec} {c : OpenClaim}
    (k1 : c.wf (OpenSpec.ofChange s) = true) (k2 : laidOutB P = true) (k3 : mapsRowed P = true) (k4 : fn.params.all (P.readableRec ·) = true) (k5 : namedTie P c.named s.vars = true)
    (k6 : (c.stops == []) = true) (k7 : (P.stops == []) = true) (k8 : (c.knobs == []) = true) (k9 : (P.stopKnobs == []) = true)
    (k10 : (c.inPlace == P.inPlace f) = true) (k11 : (c.unfollowed == P.unfollowed f) = true) (k12 : (c.recurses == P.recurses f) = true) (k13 : (c.named == P.varsNamed f) = true)
    (k14 : (c.maps == (fn.params.toList ++ s.plain.varTypes P).any (P.mapsRec ·)) = true) (k15 : (c.ifaces == (fn.params.toList ++ s.plain.varTypes P).any (P.ifacesRec ·)) = true) (k16 : (c.mapsOut == P.mapsAmong fn.resultTypes.toList) = true)
    (k17 : (c.loops == (fn.params.toList ++ s.plain.varTypes P).any (P.loopsFrom ·)) = true) (k17b : (c.wideKeys == (fn.params.toList ++ s.plain.varTypes P ++ fn.resultTypes.toList).any (P.wideKeysFrom ·)) = true)
    (k18 : s.vars.all (P.varReadable ·) = true) (k19 : fn.resultTypes.all (fun t => P.readableRec t && decide (t < P.types.size)) = true) (k20 : (c.ifacesOut == fn.resultTypes.toList.any (P.ifacesRec ·)) = true)
    (k21 : (c.loopsOut == fn.resultTypes.toList.any (P.loopsFrom ·)) = true) (k22 : (c.plainKeys == P.plainKeys) = true) (k23 : c.shortTexts.isNone = true) (k23b : P.stopsHeard = true) (k24 : P.mayEnter = true)
    (k24b : (c.lifted == P.liftsFinal) = true) (k24c : (P.make == some c.make) = true) (k25 : (c.kinds == (if c.domain.isEmpty then [] else fn.params.toList.map fun t => match P.underlying t with | some (.int k) => some k | _ => none)) = true) (k26 : (c.pinned == c.pinnedBy) = true)
    (k27 : (c.veiled == (fn.params.toList ++ s.plain.varTypes P ++ fn.resultTypes.toList).any (P.veiledRec ·)) = true) (k28 : c.veiledFits P fn.params.toList (fn.params.toList ++ s.plain.varTypes P ++ fn.resultTypes.toList) = true) :
    joinedFacts P f fn s c = true := by
  simp only [joinedFacts, Bool.and_eq_true]
  exact ⟨⟨⟨⟨⟨⟨⟨⟨⟨⟨⟨⟨⟨⟨⟨⟨⟨⟨⟨⟨⟨⟨⟨⟨⟨⟨⟨⟨⟨⟨⟨k1, k2⟩, k3⟩, k4⟩, k5⟩, k6⟩, k7⟩, k8⟩, k9⟩, k10⟩, k11⟩, k12⟩, k13⟩, k14⟩, k15⟩, k16⟩, k17⟩, k17b⟩, k18⟩, k19⟩, k20⟩, k21⟩, k22⟩, k23⟩, k23b⟩, k24⟩, k24b⟩, k24c⟩, k25⟩, k26⟩, k27⟩, k28⟩

def initNums : List Nat := [104, 97, 114, 110, 101, 115, 115, 32, 57, 54, 52, 99, 101, 50, 101, 50, 99, 101, 102, 99, 52, 55, 51, 98, 97, 50, 55, 54, 55, 101, 49, 49, 56, 49, 51, 99, 57, 52, 54, 102, 52, 97, 102, 99, 101, 97, 49, 97, 97, 55, 102, 50, 56, 54, 101, 49, 51, 102, 50, 100, 102, 100, 57, 51, 98, 55, 52, 102, 100, 55, 56, 51, 32, 99, 117, 116, 32, 97, 116, 32, 108, 111, 111, 112, 46, 101, 120, 97, 109, 112, 108, 101, 47, 115, 101, 101, 100, 108, 105, 112, 47, 108, 97, 119, 115, 46, 70, 110, 69, 120, 97, 99, 116, 78, 101, 116, 76, 105, 116, 32, 108, 111, 111, 112, 46, 101, 120, 97, 109, 112, 108, 101, 47, 115, 101, 101, 100, 108, 105, 112, 47, 108, 97, 119, 115, 46, 70, 110, 78, 101, 116, 76, 105, 116, 32, 108, 111, 111, 112, 46, 101, 120, 97, 109, 112, 108, 101, 47, 115, 101, 101, 100, 108, 105, 112, 47, 108, 97, 119, 115, 46, 70, 110, 69, 120, 97, 99, 116, 78, 101, 116, 83, 97, 109, 101, 32, 108, 111, 111, 112, 46, 101, 120, 97, 109, 112, 108, 101, 47, 115, 101, 101, 100, 108, 105, 112, 47, 108, 97, 119, 115, 46, 70, 110, 69, 120, 97, 99, 116, 78, 101, 116, 79, 107, 32, 108, 111, 111, 112, 46, 101, 120, 97, 109, 112, 108, 101, 47, 115, 101, 101, 100, 108, 105, 112, 47, 108, 97, 119, 115, 46, 70, 110, 78, 101, 116, 66, 101, 110, 116, 32, 108, 111, 111, 112, 46, 101, 120, 97, 109, 112, 108, 101, 47, 115, 101, 101, 100, 108, 105, 112, 47, 108, 97, 119, 115, 46, 70, 110, 69, 120, 97, 99, 116, 78, 101, 116, 86, 97, 108, 115, 32, 108, 111, 111, 112, 46, 101, 120, 97, 109, 112, 108, 101, 47, 115, 101, 101, 100, 108, 105, 112, 47, 108, 97, 119, 115, 46, 70, 110, 69, 120, 97, 99, 116, 78, 101, 116, 67, 110, 102, 32, 108, 111, 111, 112, 46, 101, 120, 97, 109, 112, 108, 101, 47, 115, 101, 101, 100, 108, 105, 112, 47, 108, 97, 119, 115, 46, 70, 110, 78, 101, 116, 86, 97, 108, 115]
theorem initEq : Try.prog.initOrder = String.ofList (initNums.map Char.ofNat) := by kernel_rfl
theorem initList : Try.prog.initOrder.toList = initNums.map Char.ofNat := by rw [initEq, String.toList_ofList]
theorem hl : Try.prog.headLifts = [] := by unfold Program.headLifts; rw [initList]; kernel_rfl
theorem hh : ((behindMainWord (wordsSigns (initNums.map Char.ofNat))).head? == some "carried".toList) = false := by kernel_rfl
theorem j24b' : Try.prog.liftsFinal = false := by
  unfold Program.liftsFinal
  rw [initList, hl]
  dsimp only
  rw [hh]
  rfl
theorem j24b : (false == Try.prog.liftsFinal) = true := by rw [j24b']; rfl
theorem h1 : Try.prog.laysLater = false := by kernel_rfl
theorem h2 : Try.prog.bearsReflect = false := by kernel_rfl
theorem h4 : (stripLifts liftWords (behindMainWord (wordsSigns (initNums.map Char.ofNat)))).2.head? = some "cut".toList := by kernel_rfl
theorem c4 : (stripLifts liftWords (behindMainWord (wordsSigns (initNums.map Char.ofNat)))).1 = [] := by kernel_rfl
theorem c5 : Try.prog.doorFits [] = true := by kernel_rfl
theorem mayEnter_of {P : Program} {l : List Char} (hi : P.initOrder.toList = l) (h1 : P.laysLater = false) (h2 : P.bearsReflect = false) (h4 : (stripLifts liftWords (behindMainWord (wordsSigns l))).2.head? = some "cut".toList)
    (c4 : (stripLifts liftWords (behindMainWord (wordsSigns l))).1 = []) (c5 : P.doorFits [] = true) : P.mayEnter = true := by
  unfold Program.mayEnter
  rw [hi, h1, h2]
  cases hb : behindMainWord (wordsSigns l) with
  | nil => rw [hb] at h4; simp [stripLifts, liftWords] at h4
  | cons c rest =>
    rw [hb] at h4 c4
    simp only [h4, c4, c5]
    simp
theorem j24 : Try.prog.mayEnter = true := mayEnter_of initList h1 h2 h4 c4 c5
theorem h5 : (behindMainWord (wordsSigns (initNums.map Char.ofNat))).head? = some "cut".toList := by kernel_rfl
theorem make_of {P : Program} {l : List Char} (hi : P.initOrder.toList = l) (h5 : (behindMainWord (wordsSigns l)).head? = some "cut".toList) : P.make = some .cut := by
  unfold Program.make
  rw [hi]
  cases hb : behindMainWord (wordsSigns l) with
  | nil => rw [hb] at h5; simp at h5
  | cons c rest =>
    rw [hb] at h5
    simp only [List.head?_cons, Option.some.injEq] at h5
    subst h5
    simp
theorem j24c : Try.prog.make = some .cut := make_of initList h5
theorem j3 : mapsRowed Try.prog = true := by kernel_rfl
theorem j7 : (Try.prog.stops == []) = true := by kernel_rfl
theorem j9 : (Try.prog.stopKnobs == []) = true := by kernel_rfl
theorem j22 : (false == Try.prog.plainKeys) = true := by kernel_rfl
theorem j23b : Try.prog.stopsHeard = true := by kernel_rfl
theorem j24c' : (Try.prog.make == some Make.cut) = true := by rw [j24c]; rfl
end Go.Proofs.Yteeaafdgkepaeaa
