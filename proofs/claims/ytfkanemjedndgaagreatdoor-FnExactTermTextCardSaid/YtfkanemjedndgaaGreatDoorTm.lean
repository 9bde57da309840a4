/- Terms: what they read as; their sizes and the statements' own copies of them. The conditions stand in each statement. -/
import Derived.Test.YtfkanemjedndgaaGreatDoorSg
import Derived.Test.YtfkanemjedndgaaGreatDoorBn
import Derived.Lib.SmallJoins
import Derived.Deep.DeepCutAuto
namespace Go.Proofs.YtfkanemjedndgaaGreatDoor
open Go.RowKit

/-- a term -/
inductive Tm where
  | node (op a b : Int) (nm : ByteArray) (ks : List Tm)
def Tm.op : Tm → Int | .node o _ _ _ _ => o
def Tm.a : Tm → Int | .node _ a _ _ _ => a
def Tm.b : Tm → Int | .node _ _ b _ _ => b
def Tm.nm : Tm → ByteArray | .node _ _ _ n _ => n
def Tm.ks : Tm → List Tm | .node _ _ _ _ k => k
theorem Tm.ext' {t s : Tm} (h1 : t.op = s.op) (h2 : t.a = s.a) (h3 : t.b = s.b) (h4 : t.nm = s.nm) (h5 : t.ks = s.ks) : t = s := by
  cases t; cases s; simp [Tm.op, Tm.a, Tm.b, Tm.nm, Tm.ks] at *; exact ⟨h1, h2, h3, h4, h5⟩
def tz : Tm := .node 0 0 0 ⟨#[]⟩ []
instance : Inhabited Tm := ⟨tz⟩
/-- the cells of terms whose kids' slices are S -/
def tcell (ks : List Tm) (S : Nat → Value) (i j : Nat) : Value := match j with
  | 0 => .int .i64 (ks.getD i tz).op
  | 1 => .int .i64 (ks.getD i tz).a
  | 2 => .int .i64 (ks.getD i tz).b
  | 3 => .string (ks.getD i tz).nm
  | _ => S i
def tzero (j : Nat) : Value := match j with
  | 0 => .int .i64 0
  | 1 => .int .i64 0
  | 2 => .int .i64 0
  | 3 => .string ⟨#[]⟩
  | _ => .slice none 0 0
/-- the slice s reads as terms, of at most so many levels -/
def SIn : Nat → World → Value → List Tm → Prop
  | 0, _, s, ks => ks = [] ∧ ∃ a cap, s = .slice a 0 cap ∧ cap ≤ maxLen
  | d + 1, w, s, ks => ∃ a cap S, s = .slice a ks.length cap ∧ RowS w a ks.length cap 5 (tcell ks S) ∧ (∀ i, i < ks.length → (ks.getD i tz).nm.size ≤ 9223372036854775807) ∧ ∀ i, i < ks.length → SIn d w (S i) (ks.getD i tz).ks
theorem SIn.form : ∀ {d : Nat} {w : World} {s : Value} {ks : List Tm}, SIn d w s ks → ∃ a cap, s = .slice a ks.length cap ∧ cap ≤ maxLen ∧ ks.length ≤ cap
  | 0, _, _, _, ⟨h, a, cap, e, hc⟩ => by subst h; exact ⟨a, cap, e, hc, Nat.zero_le _⟩
  | _ + 1, _, _, _, ⟨a, cap, _, e, hr, _⟩ => ⟨a, cap, e, hr.2.1, hr.1⟩
theorem SIn.len {d : Nat} {w : World} {s : Value} {ks : List Tm} (h : SIn d w s ks) : ks.length ≤ 9223372036854775807 := by
  obtain ⟨a, cap, _, h1, h2⟩ := h.form; unfold maxLen at h1; omega
theorem SIn.below : ∀ {d : Nat} {w w' : World} {s : Value} {ks : List Tm}, SIn d w s ks → Below w.heap.size w w' → SIn d w' s ks
  | 0, _, _, _, _, h, _ => h
  | _ + 1, _, _, _, _, ⟨a, cap, S, e, hr, hn, hk⟩, hb => ⟨a, cap, S, e, hr.below hb, hn, fun i hi => (hk i hi).below hb⟩
theorem SIn.drew {d : Nat} {w : World} {s : Value} {ks : List Tm} (h : SIn d w s ks) : SIn d w.drew s ks := by
  induction d generalizing s ks with
  | zero => exact h
  | succ d ih => obtain ⟨a, cap, S, e, hr, hn, hk⟩ := h; exact ⟨a, cap, S, e, hr, hn, fun i hi => ih (hk i hi)⟩
/-- the five cells of element k -/
theorem RowS.five {w : World} {a : Option Addr} {n cap : Nat} {ks : List Tm} {S : Nat → Value} (h : RowS w a n cap 5 (tcell ks S)) {k : Nat} (hk : k < n) : ∃ b off, a = some ⟨b, off, none⟩ ∧ b < w.heap.size ∧
    w.cell? ⟨b, off + k * 5, none⟩ = some (.int .i64 (ks.getD k tz).op) ∧ w.cell? ⟨b, off + k * 5 + 1, none⟩ = some (.int .i64 (ks.getD k tz).a) ∧ w.cell? ⟨b, off + k * 5 + 2, none⟩ = some (.int .i64 (ks.getD k tz).b) ∧
    w.cell? ⟨b, off + k * 5 + 3, none⟩ = some (.string (ks.getD k tz).nm) ∧ w.cell? ⟨b, off + k * 5 + 4, none⟩ = some (S k) := by
  obtain ⟨_, _, h3⟩ := h
  rcases h3 with h3 | ⟨b, off, rfl, hl, hc⟩
  · omega
  · exact ⟨b, off, rfl, hl, hc k hk 0 (by omega), hc k hk 1 (by omega), hc k hk 2 (by omega), hc k hk 3 (by omega), hc k hk 4 (by omega)⟩

def Small : Nat → List Tm → Prop
  | 0, _ => True
  | d + 1, ks => ks.length ≤ 1048576 ∧ ∀ i, i < ks.length → Small d (ks.getD i tz).ks
/-- a size that was taken off -/
def Sized (d : Nat) (ks : List Tm) (left : Int) (w : World) (e : Ending) (w' : World) : Prop :=
  ∃ r : Int, e = .returned (.int .i64 r) ∧ -1 ≤ r ∧ r ≤ left ∧ (0 ≤ r → Small d ks) ∧ Below w.heap.size w w'

set_option maxHeartbeats 2000000 in
theorem szTerm_of {d : Nat} (IH : ∀ (s : Value) (ks : List Tm) (left : Int) (w : World), SIn d w s ks → 0 ≤ left → left ≤ 1048576 → Calls Tryz.prog 13 #[s, .int .i64 left] w (Sized d ks left w))
    (o a b : Int) (nm : ByteArray) (s : Value) (ks : List Tm) (left : Int) (w : World) (h : SIn d w s ks) (hn : nm.size ≤ 9223372036854775807) (h0 : 0 ≤ left) (h1 : left ≤ 1048576) :
    Calls Tryz.prog 5 #[.agg #[.int .i64 o, .int .i64 a, .int .i64 b, .string nm, s], .int .i64 left] w (Sized d ks left w) := by
  have hb := below_self_alloc w (.cells #[.int .i64 o, .int .i64 a, .int .i64 b, .string nm, s] 25)
  have h2 := h.below hb
  obtain ⟨sa, sc, rfl, _⟩ := h.form
  by_cases hc : left < (nm.size : Int)
  · clear IH h h2
    go_enter Tryz.func5, Tryz.ntmps5
    go_wp2_with fail
    go_ret
    exact ⟨-1, rfl, by omega, by omega, fun h => by omega, hb⟩
  · have C := Lib.hid (IH _ ks (left - nm.size) _ h2 (by omega) (by omega))
    have hL0 : 0 ≤ left - (nm.size : Int) := by omega
    clear IH h h2
    go_enter Tryz.func5, Tryz.ntmps5
    go_wp2_with fail
    refine C.out.mono ?_; rintro e w1 ⟨r, rfl, r0, r1, hs, hb1⟩
    have HS := Lib.hid hs
    have B1 := box2_below hb1
    clear C hs hb1
    by_cases hr : r < 0
    · go_wp2_with fail
      go_ret
      exact ⟨-1, rfl, by omega, by omega, fun h => by omega, B1⟩
    · go_wp2_with fail
      go_ret
      exact ⟨r, rfl, by omega, by omega, HS.out, B1⟩

set_option maxHeartbeats 4000000 in
theorem szTermS_any : ∀ (d : Nat) (s : Value) (ks : List Tm) (left : Int) (w : World), SIn d w s ks → 0 ≤ left → left ≤ 1048576 → Calls Tryz.prog 13 #[s, .int .i64 left] w (Sized d ks left w)
  | 0, s, ks, left, w, h, h0, h1 => by
    obtain ⟨rfl, a, cap, rfl, _⟩ := h
    go_enter Tryz.func13, Tryz.ntmps13
    go_wp2
    go_loopw [5, 1] (fun i q wr => i = .int .i64 0 ∧ q = .int .i64 left ∧ wr = w) (fun i _ _ => 0)
    case atStart => exact ⟨rfl, by simp, rfl⟩
    case round =>
      obtain ⟨rfl, rfl, rfl⟩ := hrel
      go_wp2
      go_ret
      exact ⟨left, rfl, by omega, Int.le_refl _, fun _ => trivial, Below.refl _ _⟩
  | d + 1, s, ks, left, w, h, h0, h1 => by
    have IH := Lib.hid (szTerm_of (d := d) (szTermS_any d))
    have hl := h.len
    obtain ⟨a, cap, S, rfl, hr, hn, hk⟩ := h
    by_cases hc : left < (ks.length : Int)
    · clear IH hr hn hk
      go_enter Tryz.func13, Tryz.ntmps13
      go_wp2_with fail
      go_ret
      exact ⟨-1, rfl, by omega, by omega, fun h => by omega, Below.refl _ _⟩
    · have hL : ks.length ≤ 1048576 := by omega
      have B0 := Below.refl w.heap.size w
      have HK := Lib.hid hk
      have HN := Lib.hid hn
      clear hk hn
      go_enter Tryz.func13, Tryz.ntmps13
      go_wp2_with fail
      go_loopw [5, 1] (fun i q wr => ∃ (k : Nat) (L : Int), k ≤ ks.length ∧ i = .int .i64 k ∧ q = .int .i64 L ∧ 0 ≤ L ∧ L ≤ left ∧ Hid (∀ i, i < k → Small d (ks.getD i tz).ks) ∧ Below w.heap.size w wr) (fun i _ _ => ks.length - (intOf i).toNat)
      case atStart => exact ⟨0, _, Nat.zero_le _, rfl, rfl, by omega, by omega, fun i hi => absurd hi (Nat.not_lt_zero _), B0⟩
      case round =>
        obtain ⟨k, L, hk, rfl, rfl, l0, l1, hs, B⟩ := hrel
        clear B0
        by_cases hlt : k < ks.length
        · obtain ⟨b, off, rfl, _, c0, c1, c2, c3, c4⟩ := (hr.below B).five hlt
          have h1k := (HK.out k hlt).below B
          have hnk := HN.out k hlt
          obtain ⟨sa, sc, es, _⟩ := h1k.form
          rw [es] at c4 h1k
          have C := Lib.hid (IH.out (ks.getD k tz).op (ks.getD k tz).a (ks.getD k tz).b (ks.getD k tz).nm _ (ks.getD k tz).ks L wr h1k hnk l0 (by omega))
          have HS := hs
          obtain ⟨x, hx⟩ : ∃ x, x = ks.getD k tz := ⟨_, rfl⟩
          rw [← hx] at c0 c1 c2 c3 c4 C
          have HX := Lib.hid hx
          clear h1k hnk es hx hs hr
          have hk1 : (k : Int) < (ks.length : Int) := by omega
          go_wp2_with fail
          refine C.out.mono ?_; rintro e w1 ⟨r, rfl, r0, r1, hs1, hb1⟩
          have B1 := below_two B hb1
          have HS1 := Lib.hid hs1
          clear C hs1 hb1 B
          by_cases hrr : r < 0
          · go_wp2_with fail
            go_ret
            exact ⟨-1, rfl, by omega, by omega, fun h => by omega, B1⟩
          · have HS2 : Hid (∀ i, i < k + 1 → Small d (ks.getD i tz).ks) := fun i hi => by
              rcases Nat.lt_or_ge i k with h3 | h3
              · exact HS.out i h3
              · rw [show i = k by omega, ← HX.out]; exact HS1.out (by omega)
            go_wp2_with fail
            exact ⟨⟨k + 1, r, by omega, by go_num, rfl, by omega, by omega, HS2, B1⟩, by simp [intOf]; omega⟩
        · obtain rfl : k = ks.length := by omega
          have HS := Lib.hid (show Small (d + 1) ks from ⟨hL, hs.out⟩)
          clear hs hr
          go_wp2_with fail
          go_ret
          exact ⟨L, rfl, by omega, by omega, fun _ => HS.out, B⟩
end Go.Proofs.YtfkanemjedndgaaGreatDoor
