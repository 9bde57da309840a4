/- EnvOk of the program and of the reference. The conditions stand in each statement. -/
import Derived.Test.YtklbdfjmhbiheaaDoorEm
namespace Go.Proofs.YtklbdfjmhbiheaaDoor
open Go.RowKit

/-- a right environment -/
def EnvIn (ds : List Dc) (env : List Int) : Prop := DeclsOk ds ∧ env.length = ds.length ∧ ∀ i, i < ds.length → vokB (ds.getD i dz).2 (env.getD i 0) = true
open Classical in
noncomputable def envV (ds : List Dc) (env : List Int) : Bool := decide (EnvIn ds env)
theorem envV_true {ds : List Dc} {env : List Int} : envV ds env = true ↔ EnvIn ds env := by unfold envV; simp
theorem envV_false {ds : List Dc} {env : List Int} : envV ds env = false ↔ ¬ EnvIn ds env := by unfold envV; simp

theorem row_one {w : World} {a : Option Addr} {n cap k : Nat} {f : Nat → Value} (h : Row w a n cap f) (hk : k < n) : ∃ b off, a = some ⟨b, off, none⟩ ∧ b < w.heap.size ∧ w.cell? ⟨b, off + k, none⟩ = some (f k) := by
  obtain ⟨_, _, h3⟩ := h
  rcases h3 with h3 | ⟨b, off, rfl, hl, hc⟩
  · omega
  · exact ⟨b, off, rfl, hl, hc k hk⟩
theorem one_keep {w w' : World} (hb : Below w.heap.size w w') {b o : Nat} {x : Value} (hl : b < w.heap.size) (h : w.cell? ⟨b, o, none⟩ = some x) : w'.cell? ⟨b, o, none⟩ = some x := (hb.cell (p := ⟨b, o, none⟩) hl).trans h
theorem one_drew {w : World} {b o : Nat} {x : Value} (h : w.cell? ⟨b, o, none⟩ = some x) : w.drew.cell? ⟨b, o, none⟩ = some x := h

set_option maxHeartbeats 4000000 in
theorem envOk_spec (v v' : Value) (ds : List Dc) (env : List Int) (w : World) (h : Decls w v ds) (h' : Ints w v' env) :
    Calls Tryd.prog 16 #[v, v'] w fun e w' => e = .returned (.bool (envV ds env)) ∧ Below w.heap.size w w' := by
  have C1 := declOk_spec v ds w h
  have hl := h.len
  have hl' := h'.len
  obtain ⟨a, cap, rfl, hr, _⟩ := h
  obtain ⟨a', cap', rfl, hr'⟩ := h'
  obtain ⟨z, hz⟩ : ∃ z, z = envV ds env := ⟨_, rfl⟩
  rw [← hz]
  have HZ := Lib.hid hz
  clear hz
  cases hd : declV ds
  · rw [hd] at C1
    obtain rfl : z = false := by rw [HZ.out, envV_false]; intro he; have := declV_true.2 he.1; rw [hd] at this; cases this
    have C := Lib.hid C1
    clear C1 HZ hr hr' hd
    go_enter Tryd.func16, Tryd.ntmps16
    go_wp2_with fail
    refine C.out.mono ?_; rintro e w1 ⟨rfl, m, rfl⟩
    go_wp2_with fail
    go_ret
    exact ⟨rfl, below_drewN (Below.refl _ _) m⟩
  · rw [hd] at C1
    have C := Lib.hid C1
    have HD := Lib.hid (declV_true.1 hd)
    clear C1 hd
    by_cases hn : env.length = ds.length
    · rw [hn] at hr' hl'
      have HN := Lib.hid hn
      rw [hn]
      clear hn
      go_enter Tryd.func16, Tryd.ntmps16
      go_wp2_with fail
      refine C.out.mono ?_; rintro e w1 ⟨rfl, m, rfl⟩
      have B0 := below_drewN (Below.refl w.heap.size w) m
      clear C
      go_wp2_with fail
      go_loopw [5] (fun i wr => ∃ k : Nat, k ≤ ds.length ∧ i = .int .i64 k ∧ Hid (∀ i, i < k → vokB (ds.getD i dz).2 (env.getD i 0) = true) ∧ Below w.heap.size w wr) (fun i _ => ds.length - (intOf i).toNat)
      case atStart => exact ⟨0, Nat.zero_le _, rfl, fun _ h => absurd h (Nat.not_lt_zero _), B0⟩
      case round =>
        clear B0
        obtain ⟨k, hk, rfl, hpre, B⟩ := hrel
        by_cases hlt : k < ds.length
        · obtain ⟨bb, off, rfl, gl, c0, c1⟩ := (hr.below B).duo hlt
          obtain ⟨bb', off', rfl, gl', d0⟩ := row_one (hr'.below B) hlt
          have hlt2 : (k : Int) < (ds.length : Int) := by omega
          have hk0 : (0 : Int) ≤ (k : Int) := by omega
          obtain ⟨x, hx⟩ : ∃ x, x = ds.getD k dz := ⟨_, rfl⟩
          obtain ⟨y, hy⟩ : ∃ y, y = env.getD k 0 := ⟨_, rfl⟩
          rw [← hx] at c0 c1
          rw [← hy] at d0
          have V1 := fun w => vecOk_spec x.2 y w
          cases hv : vokB x.2 y
          · obtain rfl : z = false := by
              rw [HZ.out, envV_false]; intro he; have := he.2.2 k hlt; rw [← hx, ← hy, hv] at this; cases this
            rw [hv] at V1
            have V := Lib.hid V1
            clear V1 hx hy hr hr' hpre HZ hv c0
            have sS := And.intro (one_drew c1) (one_drew d0)
            replace B := B.drew
            go_wp2_with fail
            first
              | (go_region_held3 (fun wx : World => wx.cell? ⟨bb, off + k * 2 + 1, none⟩ = some (.int .i64 x.2) ∧ wx.cell? ⟨bb', off' + k, none⟩ = some (.int .i64 y)) (first | (with_reducible assumption)) (first | (go_at_call 37; (with_reducible refine (V.out _).mono ?_); rintro e w2 ⟨rfl, hb⟩; replace B := below_two B hb; replace sS := And.intro (one_keep hb gl sS.1) (one_keep hb gl' sS.2); clear hb)))
              | fail
            clear sS
            go_wp2_with fail
            go_ret
            exact ⟨rfl, B⟩
          · have hpre2 : Hid (∀ i, i < k + 1 → vokB (ds.getD i dz).2 (env.getD i 0) = true) := fun i hi => by
              by_cases e : i = k
              · rw [e, ← hx, ← hy]; exact hv
              · exact hpre.out i (by omega)
            rw [hv] at V1
            have V := Lib.hid V1
            clear V1 hx hy hr hr' hpre HZ hv c0
            have sS := And.intro (one_drew c1) (one_drew d0)
            replace B := B.drew
            go_wp2_with fail
            first
              | (go_region_held3 (fun wx : World => wx.cell? ⟨bb, off + k * 2 + 1, none⟩ = some (.int .i64 x.2) ∧ wx.cell? ⟨bb', off' + k, none⟩ = some (.int .i64 y)) (first | (with_reducible assumption)) (first | (go_at_call 37; (with_reducible refine (V.out _).mono ?_); rintro e w2 ⟨rfl, hb⟩; replace B := below_two B hb; replace sS := And.intro (one_keep hb gl sS.1) (one_keep hb gl' sS.2); clear hb)))
              | fail
            clear sS
            go_wp2_with fail
            exact ⟨⟨k + 1, by omega, by go_num, hpre2, B⟩, by simp [intOf]; omega⟩
        · obtain rfl : k = ds.length := by omega
          obtain rfl : z = true := by rw [HZ.out, envV_true]; exact ⟨HD.out, HN.out, hpre.out⟩
          clear hpre HZ hr hr'
          go_wp2_with fail
          go_ret
          exact ⟨rfl, B⟩
    · obtain rfl : z = false := by rw [HZ.out, envV_false]; intro he; exact hn he.2.1
      have hn2 : ((env.length : Int) != (ds.length : Int)) = true := by simp; omega
      clear HZ hr hr' HD hn
      go_enter Tryd.func16, Tryd.ntmps16
      go_wp2_with fail
      refine C.out.mono ?_; rintro e w1 ⟨rfl, m, rfl⟩
      go_wp2_with fail
      go_ret
      exact ⟨rfl, below_drewN (Below.refl _ _) m⟩

set_option maxHeartbeats 4000000 in
theorem envOk_impl (v v' : Value) (ds : List Dc) (env : List Int) (w : World) (h : Decls w v ds) (h' : Ints w v' env) :
    Calls Tryd.prog 18 #[v, v'] w fun e w' => e = .returned (.bool (envV ds env)) ∧ Below w.heap.size w w' := by
  have C1 := declOk_impl v ds w h
  have hl := h.len
  have hl' := h'.len
  obtain ⟨a, cap, rfl, hr, _⟩ := h
  obtain ⟨a', cap', rfl, hr'⟩ := h'
  obtain ⟨z, hz⟩ : ∃ z, z = envV ds env := ⟨_, rfl⟩
  rw [← hz]
  have HZ := Lib.hid hz
  clear hz
  cases hd : declV ds
  · rw [hd] at C1
    obtain rfl : z = false := by rw [HZ.out, envV_false]; intro he; have := declV_true.2 he.1; rw [hd] at this; cases this
    have C := Lib.hid C1
    clear C1 HZ hr hr' hd
    go_enter Tryd.func18, Tryd.ntmps18
    go_wp2_with fail
    refine C.out.mono ?_; rintro e w1 ⟨rfl, B0⟩
    go_wp2_with fail
    go_ret
    exact ⟨rfl, B0⟩
  · rw [hd] at C1
    have C := Lib.hid C1
    have HD := Lib.hid (declV_true.1 hd)
    clear C1 hd
    by_cases hn : env.length = ds.length
    · rw [hn] at hr' hl'
      have HN := Lib.hid hn
      rw [hn]
      clear hn
      go_enter Tryd.func18, Tryd.ntmps18
      go_wp2_with fail
      refine C.out.mono ?_; rintro e w1 ⟨rfl, B0⟩
      clear C
      go_wp2_with fail
      go_loopw [19] (fun i wr => ∃ k : Nat, k ≤ ds.length ∧ i = .int .i64 k ∧ Hid (∀ i, i < k → vokB (ds.getD i dz).2 (env.getD i 0) = true) ∧ Below w.heap.size w wr) (fun i _ => ds.length - (intOf i).toNat)
      case atStart => exact ⟨0, Nat.zero_le _, rfl, fun _ h => absurd h (Nat.not_lt_zero _), B0⟩
      case round =>
        clear B0
        obtain ⟨k, hk, rfl, hpre, B⟩ := hrel
        by_cases hlt : k < ds.length
        · obtain ⟨bb, off, rfl, gl, c0, c1⟩ := (hr.below B).duo hlt
          obtain ⟨bb', off', rfl, gl', d0⟩ := row_one (hr'.below B) hlt
          have hlt2 : (k : Int) < (ds.length : Int) := by omega
          have hk0 : (0 : Int) ≤ (k : Int) := by omega
          obtain ⟨x, hx⟩ : ∃ x, x = ds.getD k dz := ⟨_, rfl⟩
          obtain ⟨y, hy⟩ : ∃ y, y = env.getD k 0 := ⟨_, rfl⟩
          rw [← hx] at c0 c1
          rw [← hy] at d0
          have V1 := fun w => vecOk_impl x.2 y w
          cases hv : vokB x.2 y
          · obtain rfl : z = false := by
              rw [HZ.out, envV_false]; intro he; have := he.2.2 k hlt; rw [← hx, ← hy, hv] at this; cases this
            rw [hv] at V1
            have V := Lib.hid V1
            clear V1 hx hy hr hr' hpre HZ hv c0
            go_wp2_with fail
            refine (V.out _).mono ?_; rintro e w2 ⟨rfl, hb⟩
            replace B := below_two B hb
            clear hb
            go_wp2_with fail
            go_ret
            exact ⟨rfl, B⟩
          · have hpre2 : Hid (∀ i, i < k + 1 → vokB (ds.getD i dz).2 (env.getD i 0) = true) := fun i hi => by
              by_cases e : i = k
              · rw [e, ← hx, ← hy]; exact hv
              · exact hpre.out i (by omega)
            rw [hv] at V1
            have V := Lib.hid V1
            clear V1 hx hy hr hr' hpre HZ hv c0
            go_wp2_with fail
            refine (V.out _).mono ?_; rintro e w2 ⟨rfl, hb⟩
            replace B := below_two B hb
            clear hb
            go_wp2_with fail
            exact ⟨⟨k + 1, by omega, by go_num, hpre2, B⟩, by simp [intOf]; omega⟩
        · obtain rfl : k = ds.length := by omega
          obtain rfl : z = true := by rw [HZ.out, envV_true]; exact ⟨HD.out, HN.out, hpre.out⟩
          clear hpre HZ hr hr'
          go_wp2_with fail
          go_ret
          exact ⟨rfl, B⟩
    · obtain rfl : z = false := by rw [HZ.out, envV_false]; intro he; exact hn he.2.1
      have hn2 : ((env.length : Int) != (ds.length : Int)) = true := by simp; omega
      clear HZ hr hr' HD hn
      go_enter Tryd.func18, Tryd.ntmps18
      go_wp2_with fail
      refine C.out.mono ?_; rintro e w1 ⟨rfl, B0⟩
      go_wp2_with fail
      go_ret
      exact ⟨rfl, B0⟩

end Go.Proofs.YtklbdfjmhbiheaaDoor
