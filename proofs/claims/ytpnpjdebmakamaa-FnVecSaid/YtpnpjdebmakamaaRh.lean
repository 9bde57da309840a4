/- What the reader's 'of' and DrawVecRead give. -/
import Derived.Test.YtpnpjdebmakamaaRe
import Derived.Test.YtpnpjdebmakamaaVg
namespace Go.Proofs.Ytpnpjdebmakamaa
open Go.RowKit
/-- a text of at most n bytes -/
def IsS (n : Nat) (x : Value) : Prop := ∃ s : ByteArray, x = .string s ∧ s.size ≤ n

set_option maxHeartbeats 1000000 in
theorem of_any (g P : Nat) (v : Value) (h n cap m : Nat) (w : World) (hr : RdOk w g v P) (hP : P ≤ 1000000) (hn : 1 ≤ n) (hm : n ≤ 1000) (hne : h ≠ g)
    (hc : ∀ i, i < n → ∃ x : ByteArray, w.cell? ⟨h, i, none⟩ = some (.string x) ∧ x.size ≤ m) :
    Calls Try.prog 63 #[.pointer (some ⟨g, 0, none⟩), .slice (some ⟨h, 0, none⟩) n cap] w (Drawn g v (P + 1) (IsS m) w) := by
  have hn' : (1 : Int) ≤ (n : Int) := by omega
  go_enter Try.func63, Try.ntmps63
  go_wp2_with fail
  refine (pick_any g P v n _ hr hP).mono ?_
  rintro e w1 ⟨k, rfl, k0, k1, _, hg1, hr1⟩
  have k2 := k1 hn'
  obtain ⟨j, rfl⟩ := Int.eq_ofNat_of_zero_le k0
  obtain ⟨x, hx, hxs⟩ := hc j (by omega)
  have hx1 : w1.cell? ⟨h, j, none⟩ = some (.string x) := hg1.cell hx (by simpa using hne)
  have G : Hid (Drawn g v (P + 1) (IsS m) w (.returned (.string x)) w1) := ⟨_, rfl, ⟨x, rfl, hxs⟩, hg1, hr1⟩
  clear hc hx k1 hr hr1 hg1 hxs
  go_wp2_with fail
  go_ret
  exact G.out

theorem vtxt_len (a b : Int) : (vtxt a b).size ≤ 5 := by
  unfold vtxt
  split
  · rename_i h
    obtain ⟨h1, h2, _⟩ := vokB_bd h
    show (vt a.toNat b a.toNat).toArray.size ≤ 5
    rw [List.size_toArray, vt_len]; omega
  · show 0 ≤ 5; omega

theorem new_strs (W : World) (l : List ByteArray) (t : TypeId) (m : Nat) (hl : ∀ x ∈ l, x.size ≤ m) : ∀ i, i < l.length → ∃ x : ByteArray, (W.alloc (.cells (l.map Value.string).toArray t)).cell? ⟨W.heap.size, i, none⟩ = some (.string x) ∧ x.size ≤ m := by
  intro i hi
  refine ⟨l[i], ?_, hl _ (List.getElem_mem _)⟩
  rw [World.cell?_alloc_new]
  simp [hi]

theorem torn6 : ∀ x ∈ [(⟨#[]⟩ : ByteArray), ⟨#[48]⟩, ⟨#[49]⟩, ⟨#[35]⟩, ⟨#[50]⟩, ⟨#[32]⟩], x.size ≤ 1 := by
  intro x hx
  simp only [List.mem_cons, List.not_mem_nil, or_false] at hx
  rcases hx with rfl | rfl | rfl | rfl | rfl | rfl <;> decide

set_option maxHeartbeats 2000000 in
theorem drawVecRead_any (v : Value) (w : World) (h : BytesIn w v) :
    Calls Try.prog 41 #[v] w (Gave (IsS 11) w) := by
  go_enter Try.func41, Try.ntmps41
  go_wp2_with fail
  refine (l12Open_any v _ h).mono ?_
  rintro e w1 ⟨g, u, rfl, hg, hb1, hr1⟩
  go_wp2_with fail
  refine (l1Vec_any g 0 u _ hr1 (by omega)).mono ?_
  rintro e w2 ⟨_, rfl, ⟨a, b, rfl⟩, hg2, hr2⟩
  have B2 := below_of_grown hb1 hg2 hg
  go_wp2_with fail
  refine (vecText_spec a b _).mono ?_
  rintro e w3 ⟨rfl, hb3⟩
  have B3 := below_two B2 hb3
  have hr3 := hr2.below hb3
  have hl := vtxt_len a b
  generalize vtxt a b = s at *
  clear hr1 hg2 B2 hb3 hr2
  by_cases h0 : s.toList.isEmpty = true
  · have h0' : s.toList = [] := by simpa using h0
    go_wp2_with fail
    go_ret
    exact ⟨_, rfl, ⟨_, rfl, by omega⟩, B3⟩
  · have h1 : s.toList.isEmpty = false := by simpa using h0
    have h1' : ¬ s.toList = [] := by simpa using h0
    have hs1 : 1 ≤ s.size := by
      rcases Nat.eq_zero_or_pos s.size with hz | hz
      · exact absurd (by have : s.data.toList.length = 0 := by simpa using hz
                         simpa [ByteArray.toList_eq] using List.eq_nil_of_length_eq_zero this) h1'
      · exact hz
    clear h0
    go_wp2_with fail
    refine (pick_any g 4 u 2 _ hr3 (by omega)).mono ?_
    rintro e w4 ⟨k, rfl, k0, k1, _, hg4, hr4⟩
    have B4 := below_of_grown B3 hg4 hg
    clear hr3 hg4 B3 k1
    by_cases hk : k = 0
    · subst hk
      go_wp2_with fail
      go_ret
      exact ⟨_, rfl, ⟨_, rfl, by omega⟩, B4⟩
    · have hk' : (k == 0) = false := by simpa using hk
      clear hk
      go_wp2_with fail
      refine (pick_any g 5 u s.size _ hr4 (by omega)).mono ?_
      rintro e w5 ⟨q, rfl, q0, q1, _, hg5, hr5⟩
      have B5 := below_of_grown B4 hg5 hg
      have q2 := q1 (by omega)
      clear hr4 hg5 B4 q1
      obtain ⟨j, rfl⟩ := Int.eq_ofNat_of_zero_le q0
      have gl5 := hr5.lt
      have q3 : (j : Int) ≤ s.size := by omega
      have q4 : j ≤ s.size := by omega
      go_wp2_with fail
      go_region_held3 (fun wx => True) (trivial) (first
        | (go_at_call 63; refine (of_any g 6 u w5.heap.size 6 6 1 _ (hr5.alloc _).drew (by omega) (by omega) (by omega) (by omega) (new_strs w5 [⟨#[]⟩, ⟨#[48]⟩, ⟨#[49]⟩, ⟨#[35]⟩, ⟨#[50]⟩, ⟨#[32]⟩] _ 1 torn6)).mono ?_; rintro e w6 ⟨_, rfl, ⟨y, rfl, hy⟩, hg6, hr6⟩; have cat1 := fun (wx : World) => run_string_add_sum (P := Try.prog) (w := wx) (s.extract 0 j) y (by simp [ByteArray.size_extract]; omega))
        | (go_at_call 62; refine (pick_any g 7 u 2 _ hr6 (by omega)).mono ?_; rintro e w7 ⟨d, rfl, d0, d1, _, hg7, hr7⟩; have d2 := d1 (by decide); obtain ⟨i, rfl⟩ := Int.eq_ofNat_of_zero_le d0; have i1 : IntKind.i64.wrap ((j : Int) + (i : Int)) = (j : Int) + (i : Int) := (by rw [IntWalk.i64_in _ (by omega)]); have i2 : (j : Int) + (i : Int) ≤ (s.size : Int) := (by omega); have i3 : (0 : Int) ≤ (j : Int) + (i : Int) := (by omega); have cat2 := fun (wx : World) => run_string_add_sum (P := Try.prog) (w := wx) (s.extract 0 j ++ y) (s.extract (j + i) s.size) (by simp [ByteArray.size_append, ByteArray.size_extract]; omega); have cat3 : ∀ wx : World, (Op.stringOp .add (s.extract 0 j ++ y) (s.extract ((j : Int) + (i : Int)).toNat s.size)).run Try.prog wx = .ok (.string (s.extract 0 j ++ y ++ s.extract (j + i) s.size)) wx := cat2))
      all_goals
        have B7 := below_of_grown (below_of_grown (below_step B5 (.cells #[.string ⟨#[]⟩, .string ⟨#[48]⟩, .string ⟨#[49]⟩, .string ⟨#[35]⟩, .string ⟨#[50]⟩, .string ⟨#[32]⟩] 9)).drew hg6 hg) hg7 hg
        go_wp2_with fail
        go_ret
        exact ⟨_, rfl, ⟨_, rfl, by simp [ByteArray.size_append, ByteArray.size_extract]; omega⟩, B7⟩
end Go.Proofs.Ytpnpjdebmakamaa
