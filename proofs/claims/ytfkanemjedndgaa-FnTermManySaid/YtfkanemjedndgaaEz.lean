/- Declarations: what they read as; the statements' own sizes, copies and comparisons of them. The conditions stand in each statement. -/
import Derived.Test.YtfkanemjedndgaaSg
import Derived.Test.YtfkanemjedndgaaBn
import Derived.Deep.DeepCutAuto
import Derived.Lib.SmallJoins
import Derived.StillTailTactics
import Derived.WideShapes
namespace Go.Proofs.Ytfkanemjedndgaa
open Go.RowKit

/-- a declaration: its name and how wide it is -/
abbrev Dc := ByteArray × Int
def dz : Dc := (⟨#[]⟩, 0)
def dcell (ds : List Dc) (i j : Nat) : Value := match j with
  | 0 => .string (ds.getD i dz).1
  | _ => .int .i64 (ds.getD i dz).2
def dzero (j : Nat) : Value := match j with
  | 0 => .string ⟨#[]⟩
  | _ => .int .i64 0
def Named (ds : List Dc) : Prop := ∀ i, i < ds.length → (ds.getD i dz).1.size ≤ 9223372036854775807
def Decls (w : World) (v : Value) (ds : List Dc) : Prop := ∃ a cap, v = .slice a ds.length cap ∧ RowS w a ds.length cap 2 (dcell ds) ∧ Named ds
theorem Decls.below {w w' : World} {v : Value} {l : List Dc} (h : Decls w v l) (hb : Below w.heap.size w w') : Decls w' v l := by
  obtain ⟨a, cap, rfl, h, hn⟩ := h; exact ⟨a, cap, rfl, h.below hb, hn⟩
theorem Decls.drew {w : World} {v : Value} {l : List Dc} (h : Decls w v l) : Decls w.drew v l := h
theorem Decls.form {w : World} {v : Value} {l : List Dc} (h : Decls w v l) : ∃ a cap, v = .slice a l.length cap ∧ cap ≤ maxLen ∧ l.length ≤ cap := by
  obtain ⟨a, cap, rfl, ⟨h1, h2, _⟩, _⟩ := h; exact ⟨a, cap, rfl, h2, h1⟩
theorem Decls.len {w : World} {v : Value} {l : List Dc} (h : Decls w v l) : l.length ≤ 9223372036854775807 := by
  obtain ⟨a, cap, rfl, ⟨h1, h2, _⟩, _⟩ := h; unfold maxLen at h2; omega
theorem Decls.named {w : World} {v : Value} {l : List Dc} (h : Decls w v l) : Named l := by
  obtain ⟨a, cap, rfl, _, hn⟩ := h; exact hn
/-- the two cells of element k, at the address that the walk writes -/
theorem RowS.duo {w : World} {a : Option Addr} {n cap : Nat} {ds : List Dc} (h : RowS w a n cap 2 (dcell ds)) {k : Nat} (hk : k < n) : ∃ b off, a = some ⟨b, off, none⟩ ∧ b < w.heap.size ∧
    w.cell? ⟨b, off + k * 2, none⟩ = some (.string (ds.getD k dz).1) ∧ w.cell? ⟨b, off + k * 2 + 1, none⟩ = some (.int .i64 (ds.getD k dz).2) := by
  obtain ⟨_, _, h3⟩ := h
  rcases h3 with h3 | ⟨b, off, rfl, hl, hc⟩
  · omega
  · exact ⟨b, off, rfl, hl, hc k hk 0 (by omega), hc k hk 1 (by omega)⟩
theorem fillS_set2 (f : Nat → Nat → Value) (z : Nat → Value) (n k : Nat) :
    ((fillS f z n 2 k).set (k * 2) (f k 0)).set (k * 2 + 1) (f k 1) = fillS f z n 2 (k + 1) := by
  apply List.ext_getElem (by simp [fillS])
  intro q h1 h2
  simp only [List.getElem_set]
  simp only [fillS, List.getElem_map, List.getElem_range]
  by_cases e1 : k * 2 + 1 = q
  · rw [if_pos e1, if_pos (by omega), show q / 2 = k by omega, show q % 2 = 1 by omega]
  · rw [if_neg e1]
    by_cases e0 : k * 2 = q
    · rw [if_pos e0, if_pos (by omega), show q / 2 = k by omega, show q % 2 = 0 by omega]
    · rw [if_neg e0]
      by_cases e : q < k * 2
      · rw [if_pos e, if_pos (by omega)]
      · rw [if_neg e, if_neg (by omega)]
theorem fillS_step2 {w : World} {base g n k : Nat} {e : TypeId} {f : Nat → Nat → Value} {z : Nat → Value} (h : w.ownsRow base e 2 (.slice (some ⟨g, 0, none⟩) n n) n (fillS f z n 2 k)) (hk : k < n) :
    (w.cell? ⟨g, k * 2, none⟩ = some (z 0) ∧ w.cell? ⟨g, k * 2 + 1, none⟩ = some (z 1)) ∧
    (w.frozen? ⟨g, k * 2, none⟩ = false ∧ w.frozen? ⟨g, k * 2 + 1, none⟩ = false) ∧
    ((w.setCell ⟨g, k * 2, none⟩ (f k 0)).setCell ⟨g, k * 2 + 1, none⟩ (f k 1)).ownsRow base e 2 (.slice (some ⟨g, 0, none⟩) n n) n (fillS f z n 2 (k + 1)) := by
  have c : ∀ j, j < 2 → w.cell? ⟨g, k * 2 + j, none⟩ = some (z j) := fun j hj => by
    rw [h.cellAt _ (by omega), fillS_get _ _ _ _ _ (by omega), if_neg (by omega), show (k * 2 + j) % 2 = j by omega]
  refine ⟨⟨c 0 (by omega), c 1 (by omega)⟩, ⟨h.frozenAt _, h.frozenAt _⟩, ?_⟩
  have := ((h.stored (k * 2) (f k 0)).1.stored (k * 2 + 1) (f k 1)).1
  rw [fillS_set2] at this
  exact this
theorem infoDecl : (Try.prog.info? 62).map (fun i => (i.zero, i.size, i.bytes)) = some (some (.agg #[.string ⟨#[]⟩, .int .i64 0]), 2, 24) := by kernel_rfl
def SizedD (ds : List Dc) (left : Int) (w : World) (e : Ending) (w' : World) : Prop :=
  ∃ r : Int, e = .returned (.int .i64 r) ∧ -1 ≤ r ∧ r ≤ left ∧ (0 ≤ r → ds.length ≤ 1048576) ∧ Below w.heap.size w w'
def NewDecls (ds : List Dc) (w : World) (e : Ending) (w' : World) : Prop := ∃ v, e = .returned v ∧ w'.ownsRow w.heap.size 62 2 v ds.length (fillS (dcell ds) dzero ds.length 2 ds.length) ∧ Decls w' v ds ∧ Below w.heap.size w w'
theorem duo_keep {w w' : World} (hb : Below w.heap.size w w') {b o : Nat} {x y : Value} (hl : b < w.heap.size) (h : w.cell? ⟨b, o, none⟩ = some x ∧ w.cell? ⟨b, o + 1, none⟩ = some y) :
    w'.cell? ⟨b, o, none⟩ = some x ∧ w'.cell? ⟨b, o + 1, none⟩ = some y :=
  ⟨(hb.cell (p := ⟨b, o, none⟩) hl).trans h.1, (hb.cell (p := ⟨b, o + 1, none⟩) hl).trans h.2⟩
theorem duo_drew {w : World} {b o : Nat} {x y : Value} (h : w.cell? ⟨b, o, none⟩ = some x ∧ w.cell? ⟨b, o + 1, none⟩ = some y) :
    w.drew.cell? ⟨b, o, none⟩ = some x ∧ w.drew.cell? ⟨b, o + 1, none⟩ = some y := h
theorem str_ne {a b : ByteArray} (h : ¬ a = b) : (a.toList == b.toList) = false := by
  simpa using fun e => h (Go.WideShapes.bytes_inj (by rw [← ByteArray.toList_eq, ← ByteArray.toList_eq, e]))
theorem list_ne_at' {α : Type} {l l' : List α} (d : α) {i : Nat} (h : l.getD i d ≠ l'.getD i d) : ¬ l = l' := fun e => h (by rw [e])
theorem list_eq_of' {α : Type} {l l' : List α} (d : α) (hl : l.length = l'.length) (h : ∀ i, i < l.length → l.getD i d = l'.getD i d) : l = l' := by
  apply List.ext_getElem hl
  intro i h1 h2
  have := h i h1
  simpa [List.getD_eq_getElem?_getD, h1, h2] using this
end Go.Proofs.Ytfkanemjedndgaa
