/- The program's iterator over environments: what it hands out at round k is the environment of number k. The conditions stand in each statement. -/
import Derived.Test.YtklbdfjmhbiheaaDoorIa
import Derived.Test.YtklbdfjmhbiheaaDoorIb
namespace Go.Proofs.YtklbdfjmhbiheaaDoor
open Go.RowKit Go.Shelf
attribute [local go_sem] Oper.semAt_some

theorem wpListIn_make_full {F : Fence} {n : Nat} {P : Program} (w : World) {ops : Array Oper} {rest : List Oper} {o : Oper} {a : Act} {Q : Exit → Act → World → Prop}
    (hg : o.guard = none) (l c : Operand) (t : TypeId) (hop : o.op = Op.makeSlice t l c)
    (base : Nat) (e : TypeId) (i : TypeInfo) (z : Value) (size : Nat) (h1 : P.underlying t = some (.slice e)) (h2 : P.info? e = some i) (h3 : i.zero = some z) (h4 : i.size = size)
    (kl kc : IntKind) (m : Nat) (hl : a.eval l = .int kl (m : Int)) (hc : a.eval c = .int kc (m : Int)) (b2 : i.bytes * m ≤ 281474976710656) (b3 : m ≤ maxLen) (b4 : base ≤ w.heap.size)
    (hK : ∀ w', w'.ownsRow base e size (.slice (some ⟨w.heap.size, 0, none⟩) m m) m (madeCells z.cells (m * size)).toList → w.grownBy w' none → wpListIn F n P ops Q rest (a.put o.dst (.slice (some ⟨w.heap.size, 0, none⟩) m m)) w') :
    wpListIn F n P ops Q (o :: rest) a w := by
  refine wpListIn_plain hg fun K hK' => ?_
  obtain ⟨w', hrun, r1, r2⟩ := run_make_full (P := P) w base t e i z size h1 h2 h3 h4 kl kc m b2 b3 b4
  unfold Oper.wpIn
  refine ⟨?_, ?_⟩
  · simp [Oper.about, hop]
  · rw [Oper.semAt_plain F _ _ (by rw [hop]; intro c hc'; cases hc')]
    simp [execOp, hop, hl, hc, hrun, Result.andThen]
    exact hK' _ _ (hK w' r1 r2)
theorem infoIntE : (Tryd.prog.info? 3).map (fun i => (i.zero, i.size, i.bytes)) = some (some (.int .i64 0), 1, 8) := by kernel_rfl

def REnv (ds : List Dc) (n0 k : Nat) (x : Value) (A : World) : Prop :=
  ∃ g, x = .slice (some ⟨g, 0, none⟩) ds.length ds.length ∧ n0 ≤ g ∧ A.ownsRow n0 3 1 x ds.length ((digs ds k).map (.int .i64))
theorem ownsRow_mine {A B : World} {n0 size n : Nat} {e : TypeId} {v : Value} {xs : List Value} (h : A.ownsRow n0 e size v n xs) (hm : Mine n0 A B) : B.ownsRow n0 e size v n xs := by
  obtain ⟨h1, h2⟩ := h
  refine ⟨h1, ?_⟩
  rcases h2 with h2 | ⟨g, cap, cur, hv, hg, hh, r⟩
  · exact .inl h2
  · exact .inr ⟨g, cap, cur, hv, hg, (hm.same g hg (Array.getElem?_eq_some_iff.1 hh).1).trans hh, r⟩
theorem rEnv_mine {ds : List Dc} {n0 k : Nat} {x : Value} {A B : World} (h : REnv ds n0 k x A) (hm : Mine n0 A B) : REnv ds n0 k x B := by
  obtain ⟨g, e, hg, ho⟩ := h
  exact ⟨g, e, hg, ownsRow_mine ho hm⟩
def DEnv (b : Nat) (v : Value) (ds : List Dc) (A : World) : Prop := A.cell? ⟨b, 0, none⟩ = some v ∧ Decls A v ds
/-- the row while it is turned from number k to number k + 1: the places from j on are done -/
def mixd (ds : List Dc) (k j : Nat) : List Value := (List.range ds.length).map fun i => .int .i64 (if j ≤ i then (dig ds (k + 1) i : Int) else (dig ds k i : Int))
theorem mixd_get (ds : List Dc) (k j : Nat) {i : Nat} (hi : i < ds.length) : (mixd ds k j)[i]? = some (.int .i64 (if j ≤ i then (dig ds (k + 1) i : Int) else (dig ds k i : Int))) := by
  simp [mixd, hi]
theorem mixd_all (ds : List Dc) (k : Nat) : mixd ds k ds.length = (digs ds k).map (.int .i64) := by
  unfold mixd digs
  rw [List.map_map]
  refine List.map_congr_left fun i hi => ?_
  have := List.mem_range.1 hi
  simp; omega
theorem mixd_none (ds : List Dc) (k : Nat) : mixd ds k 0 = (digs ds (k + 1)).map (.int .i64) := by
  unfold mixd digs
  rw [List.map_map]
  refine List.map_congr_left fun i hi => ?_
  simp
theorem mixd_set (ds : List Dc) (k : Nat) {j : Nat} : (mixd ds k (j + 1)).set j (.int .i64 (dig ds (k + 1) j : Int)) = mixd ds k j := by
  apply List.ext_getElem?
  intro i
  by_cases hi : i < ds.length
  · rw [mixd_get ds k j hi]
    by_cases h : j = i
    · subst h
      rw [List.getElem?_set_self (by simp [mixd]; omega)]
      simp
    · rw [List.getElem?_set_ne h, mixd_get ds k (j + 1) hi]
      by_cases h2 : j ≤ i
      · rw [if_pos h2, if_pos (by omega)]
      · rw [if_neg h2, if_neg (by omega)]
  · rw [List.getElem?_eq_none (by simp [mixd]; omega), List.getElem?_eq_none (by simp [mixd]; omega)]
/-- no more carries: the places ahead are the same -/
theorem mixd_done {ds : List Dc} (hok : ∀ k, k < ds.length → OkAt ds k) {k j : Nat} (hj : j < ds.length) (h : (k + 1) % 2 ^ suf ds j ≠ 0) : mixd ds k j = (digs ds (k + 1)).map (.int .i64) := by
  unfold mixd digs
  rw [List.map_map]
  refine List.map_congr_left fun i hi => ?_
  by_cases h2 : j ≤ i
  · simp [h2]
  · have := dig_same hok (i := j) (j := i) hj (by omega) h
    simp [h2, this]
theorem row_cells {ds : List Dc} {B g k : Nat} {w : World} {e : TypeId} (own : w.ownsRow B e 1 (.slice (some ⟨g, 0, none⟩) ds.length ds.length) ds.length ((digs ds k).map (.int .i64))) : ∀ i, i < ds.length → w.cell? ⟨g, i, none⟩ = some (.int .i64 (dig ds k i : Int)) := fun i hi => by
  have h1 := own.cellAt i (by simpa using hi)
  rw [h1]
  simp [digs, hi]

set_option linter.unusedVariables false in
set_option maxRecDepth 100000 in
set_option maxHeartbeats 8000000 in
theorem envs_seq (ds : List Dc) (hok : DeclsOk ds) (b : Nat) (v : Value) (n : Nat) (w0 : World) :
    RowSeq Fence.wide n Tryd.prog 60 #[.pointer (some ⟨b, 0, none⟩)] (REnv ds) (2 ^ suf ds 0) (DEnv b v ds) w0 := by
  intro l J Jx W hW hJ hJD hY h0
  obtain ⟨i0, hi, hz0, hz1, hz2⟩ := info_parts infoIntE
  obtain ⟨hc0, hd0⟩ := hJD 0 W h0
  obtain ⟨da, dc, rfl, _⟩ := hd0
  have h4 := hok.1
  have HJ := Lib.hid hJ; have HJD := Lib.hid hJD; have HY := Lib.hid hY
  clear hJ hJD hY hW
  refine callsIn_of_wp Tryd.func60 rfl trivial ?_ rfl
  simp only [Tryd.ntmps60, List.size_toArray, List.length_cons, List.length_nil, Nat.reduceAdd, Nat.reduceSub, Array.replicate_succ, Array.replicate_zero, List.push_toArray, List.append_toArray, List.nil_append, List.cons_append]
  gi_wp2_with (gi_at_make; refine wpListIn_make_full _ rfl _ _ 30 rfl W.heap.size 3 i0 (.int .i64 0) 1 Tryd.underlying30 hi hz0 hz1 .i64 .i64 ds.length (by rfl) (by rfl) (by rw [hz2]; omega) (by unfold maxLen; omega) (Nat.le_refl _) ?_; intro w1 hown hg1)
  have hN : 2 ^ suf ds 0 ≤ 256 := many_le hok
  have B1 := below_grows (Below.refl W.heap.size W) hg1 (by simp)
  have own0 : w1.ownsRow W.heap.size 3 1 (.slice (some ⟨W.heap.size, 0, none⟩) ds.length ds.length) ds.length ((digs ds 0).map (.int .i64)) := by
    have e : (madeCells (Value.int IntKind.i64 0).cells (ds.length * 1)).toList = (digs ds 0).map (.int .i64) := by
      have e1 : (madeCells (Value.int IntKind.i64 0).cells (ds.length * 1)).toList = List.replicate ds.length (.int .i64 0) := made_one _ _
      rw [e1]
      unfold digs
      rw [List.map_map]
      refine (List.eq_replicate_iff.2 ⟨by simp, fun x hx => ?_⟩).symm
      obtain ⟨i, _, rfl⟩ := List.mem_map.1 hx
      simp [dig_zero]
    rw [← e]; exact hown
  have J0 := HJ.out 0 W w1 h0 B1
  clear hown hg1 hc0
  gi_loopw [4] (fun s4 wr => ∃ k : Nat, k < 2 ^ suf ds 0 ∧ wr.ownsRow W.heap.size 3 1 (.slice (some ⟨W.heap.size, 0, none⟩) ds.length ds.length) ds.length ((digs ds k).map (.int .i64)) ∧ Hid (J k wr)) (fun _ wr => 2 ^ suf ds 0 - rowVal ds W.heap.size wr ds.length)
  case atStart => exact ⟨0, Nat.pow_pos (by omega), own0, J0⟩
  case round =>
    clear own0 J0 B1 h0
    obtain ⟨k, hk, own, hJ⟩ := hrel
    obtain ⟨hck, hdk⟩ := HJD.out k wr hJ.out
    obtain ⟨fn, tmps, assign, body, hy, hR⟩ := HY.out k _ wr hJ.out hk ⟨W.heap.size, rfl, Nat.le_refl _, own⟩
    have hval := Lib.hid (rowVal_all hok.2.1 hk (row_cells own))
    gi_wp2
    refine ⟨fun h => (by simp [Fence.wide] at h), hR.mono ?_⟩
    rintro e W3 (⟨rfl, hJ3, hm3⟩ | ⟨rfl, hJx3⟩)
    · have own3 := ownsRow_mine own hm3
      obtain ⟨hc3, hd3⟩ := HJD.out (k + 1) W3 hJ3
      clear hR hy own hck hdk hJ
      replace hJ3 := Lib.hid hJ3
      gi_wp2
      gi_loopw [4] (fun i wr => ∃ j : Nat, j ≤ ds.length ∧ i = .int .i64 ((j : Int) - 1) ∧ wr.ownsRow W.heap.size 3 1 (.slice (some ⟨W.heap.size, 0, none⟩) ds.length ds.length) ds.length (mixd ds k j) ∧ Hid ((k + 1) % 2 ^ suf ds j = 0) ∧ Hid (J (k + 1) wr)) (fun i _ => (intOf i + 1).toNat)
      case atStart => exact ⟨ds.length, Nat.le_refl _, rfl, by rw [mixd_all]; exact own3, by rw [suf_end]; exact Nat.mod_one _, hJ3⟩
      case round =>
        clear own3 hc3 hd3 hJ3 hm3
        obtain ⟨j, hj, rfl, own4, hmod, hJ4⟩ := hrel
        rcases j with _ | j
        · have hlast := last_one hk hmod.out
          gi_wp2
          refine bodyPost_ret (results_none rfl _ _ _) rfl ?_
          exact ⟨⟨_, rfl⟩, .inl (by rw [← hlast]; exact hJ4.out)⟩
        · have ej : (((j + 1 : Nat) : Int) - 1) = (j : Int) := by omega
          rw [ej]
          have hjl : j < ds.length := by omega
          have j0 : (0 : Int) ≤ (j : Int) := by omega
          have j1 : (j : Int) < (ds.length : Int) := by omega
          obtain ⟨c, hc'⟩ : ∃ c, c = dig ds k j := ⟨_, rfl⟩
          have cj : wr.cell? ⟨W.heap.size, j, none⟩ = some (.int .i64 (c : Int)) := by
            have h1 := own4.cellAt j (by simp; omega)
            rw [h1, mixd_get ds k (j + 1) hjl, if_neg (by omega), hc']
          have ff : wr.frozen? ⟨W.heap.size, j, none⟩ = false := own4.frozenAt j
          have hcl : c < 2 ^ wd ds j := by rw [hc']; exact dig_lt ds k j
          obtain ⟨_, x1, x4, _⟩ := hok.2.1 j hjl
          have hwd4 : 2 ^ wd ds j ≤ 16 := Nat.pow_le_pow_right (n := 2) (by omega) (show wd ds j ≤ 4 by unfold wd; omega)
          have hw1 : IntKind.i64.wrap ((c : Int) + 1) = (c : Int) + 1 := IntWalk.i64_in _ (by omega)
          obtain ⟨own5, _⟩ := own4.stored j (.int .i64 ((c : Int) + 1))
          have J5 := HJ.out (k + 1) wr (wr.setCell ⟨W.heap.size, j, none⟩ (.int .i64 ((c : Int) + 1))) hJ4.out ((Below.refl _ _).setCell (p := ⟨W.heap.size, j, none⟩) (Nat.le_refl _) _)
          obtain ⟨hc5, hd5⟩ := HJD.out (k + 1) _ J5
          obtain ⟨da', dc', e5, hrow5, _⟩ := hd5
          cases e5
          obtain ⟨db, dof, rfl, _, r0, r1⟩ := hrow5.duo hjl
          replace J5 := Lib.hid J5
          have hwd : wd ds j = (ds.getD j dz).2.toNat := rfl
          have hx : (ds.getD j dz).2 = 1 ∨ (ds.getD j dz).2 = 2 ∨ (ds.getD j dz).2 = 3 ∨ (ds.getD j dz).2 = 4 := by omega
          clear hJ4 hrow5 hcl hwd4 x1 x4
          rcases hx with hx | hx | hx | hx
          all_goals rw [hx] at r1 hwd
          · by_cases hlt2 : (c : Int) + 1 < 2
            · have hlt3 : dig ds k j + 1 < 2 ^ wd ds j := by rw [← hc', hwd]; show c + 1 < 2; omega
              have hnx := dig_inc hmod.out hlt3
              have own6 : (wr.setCell ⟨W.heap.size, j, none⟩ (.int .i64 ((c : Int) + 1))).ownsRow W.heap.size 3 1 (.slice (some ⟨W.heap.size, 0, none⟩) ds.length ds.length) ds.length ((digs ds (k + 1)).map (.int .i64)) := by
                rw [← mixd_done hok.2.1 hjl (carry_not hok.2.1 hjl hmod.out hlt3), ← mixd_set, hnx, ← hc']
                simpa using own5
              have hk1 : k + 1 < 2 ^ suf ds 0 := by
                rcases Nat.lt_or_ge (k + 1) (2 ^ suf ds 0) with h9 | h9
                · exact h9
                · exfalso
                  have e9 : k + 1 = 2 ^ suf ds 0 := by omega
                  exact carry_not hok.2.1 hjl hmod.out hlt3 (by rw [e9]; exact Nat.mod_eq_zero_of_dvd (Nat.pow_dvd_pow 2 (suf_le hok.2.1 (Nat.zero_le _) (by omega))))
              have hv2 := Lib.hid (rowVal_all hok.2.1 hk1 (row_cells own6))
              replace own6 := Lib.hid own6
              clear own5 hmod hc' hlt3 hnx hwd hjl own4
              gi_wp2
              refine wpIn_wide.2 ?_
              go_quiet (fail)
              rename_i nq
              have own8 : ((wr.setCell ⟨W.heap.size, j, none⟩ (.int .i64 ((c : Int) + 1))).drewN nq).ownsRow W.heap.size 3 1 (.slice (some ⟨W.heap.size, 0, none⟩) ds.length ds.length) ds.length ((digs ds (k + 1)).map (.int .i64)) := own6.out
              have J8 : Hid (J (k + 1) ((wr.setCell ⟨W.heap.size, j, none⟩ (.int .i64 ((c : Int) + 1))).drewN nq)) := HJ.out _ _ _ J5.out (below_drewN (Below.refl _ _) nq)
              have hv8 := Lib.hid (rowVal_all hok.2.1 hk1 (row_cells own8))
              gi_wp2
              go_roundw
              case rel => exact ⟨k + 1, hk1, own8, J8⟩
              case measure => rw [hv8.out, hval.out]; omega
            · have hge3 : ¬ dig ds k j + 1 < 2 ^ wd ds j := by rw [← hc', hwd]; show ¬ c + 1 < 2; omega
              obtain ⟨hz, hmod2⟩ := dig_carry hok.2.1 hjl hmod.out hge3
              have dlt2 : decide ((c : Int) + 1 < 2) = false := by simpa using hlt2
              have ff2 := own5.frozenAt j
              have cj2 := own5.cellAt j (by simp; omega)
              rw [List.getElem?_set_self (by simp [mixd]; omega)] at cj2
              obtain ⟨own6, _⟩ := own5.stored j (.int .i64 0)
              have own7 : ((wr.setCell ⟨W.heap.size, j, none⟩ (.int .i64 ((c : Int) + 1))).setCell ⟨W.heap.size, j, none⟩ (.int .i64 0)).ownsRow W.heap.size 3 1 (.slice (some ⟨W.heap.size, 0, none⟩) ds.length ds.length) ds.length (mixd ds k j) := by
                rw [← mixd_set, hz]
                simpa using own6
              have J7 := HJ.out (k + 1) _ ((wr.setCell ⟨W.heap.size, j, none⟩ (.int .i64 ((c : Int) + 1))).setCell ⟨W.heap.size, j, none⟩ (.int .i64 0)) J5 ((Below.refl _ _).setCell (p := ⟨W.heap.size, j, none⟩) (Nat.le_refl _) _)
              replace own7 := Lib.hid own7; replace J7 := Lib.hid J7; replace hmod2 := Lib.hid hmod2
              clear own5 own6 hmod hc' hge3 hz hwd own4
              gi_wp2
              refine wpIn_wide.2 ?_
              go_quiet (fail)
              rename_i nq
              have J8 : Hid (J (k + 1) (((wr.setCell ⟨W.heap.size, j, none⟩ (.int .i64 ((c : Int) + 1))).drewN nq).setCell ⟨W.heap.size, j, none⟩ (.int .i64 0))) := HJ.out _ _ _ J5.out ((below_drewN (Below.refl _ _) nq).setCell (p := ⟨W.heap.size, j, none⟩) (Nat.le_refl _) _)
              gi_wp2
              exact ⟨⟨j, by omega, by go_num, own7.out, hmod2, J8⟩, by simp [intOf]⟩
          · by_cases hlt2 : (c : Int) + 1 < 4
            · have hlt3 : dig ds k j + 1 < 2 ^ wd ds j := by rw [← hc', hwd]; show c + 1 < 4; omega
              have hnx := dig_inc hmod.out hlt3
              have own6 : (wr.setCell ⟨W.heap.size, j, none⟩ (.int .i64 ((c : Int) + 1))).ownsRow W.heap.size 3 1 (.slice (some ⟨W.heap.size, 0, none⟩) ds.length ds.length) ds.length ((digs ds (k + 1)).map (.int .i64)) := by
                rw [← mixd_done hok.2.1 hjl (carry_not hok.2.1 hjl hmod.out hlt3), ← mixd_set, hnx, ← hc']
                simpa using own5
              have hk1 : k + 1 < 2 ^ suf ds 0 := by
                rcases Nat.lt_or_ge (k + 1) (2 ^ suf ds 0) with h9 | h9
                · exact h9
                · exfalso
                  have e9 : k + 1 = 2 ^ suf ds 0 := by omega
                  exact carry_not hok.2.1 hjl hmod.out hlt3 (by rw [e9]; exact Nat.mod_eq_zero_of_dvd (Nat.pow_dvd_pow 2 (suf_le hok.2.1 (Nat.zero_le _) (by omega))))
              have hv2 := Lib.hid (rowVal_all hok.2.1 hk1 (row_cells own6))
              replace own6 := Lib.hid own6
              clear own5 hmod hc' hlt3 hnx hwd hjl own4
              gi_wp2
              refine wpIn_wide.2 ?_
              go_quiet (fail)
              rename_i nq
              have own8 : ((wr.setCell ⟨W.heap.size, j, none⟩ (.int .i64 ((c : Int) + 1))).drewN nq).ownsRow W.heap.size 3 1 (.slice (some ⟨W.heap.size, 0, none⟩) ds.length ds.length) ds.length ((digs ds (k + 1)).map (.int .i64)) := own6.out
              have J8 : Hid (J (k + 1) ((wr.setCell ⟨W.heap.size, j, none⟩ (.int .i64 ((c : Int) + 1))).drewN nq)) := HJ.out _ _ _ J5.out (below_drewN (Below.refl _ _) nq)
              have hv8 := Lib.hid (rowVal_all hok.2.1 hk1 (row_cells own8))
              gi_wp2
              go_roundw
              case rel => exact ⟨k + 1, hk1, own8, J8⟩
              case measure => rw [hv8.out, hval.out]; omega
            · have hge3 : ¬ dig ds k j + 1 < 2 ^ wd ds j := by rw [← hc', hwd]; show ¬ c + 1 < 4; omega
              obtain ⟨hz, hmod2⟩ := dig_carry hok.2.1 hjl hmod.out hge3
              have dlt2 : decide ((c : Int) + 1 < 4) = false := by simpa using hlt2
              have ff2 := own5.frozenAt j
              have cj2 := own5.cellAt j (by simp; omega)
              rw [List.getElem?_set_self (by simp [mixd]; omega)] at cj2
              obtain ⟨own6, _⟩ := own5.stored j (.int .i64 0)
              have own7 : ((wr.setCell ⟨W.heap.size, j, none⟩ (.int .i64 ((c : Int) + 1))).setCell ⟨W.heap.size, j, none⟩ (.int .i64 0)).ownsRow W.heap.size 3 1 (.slice (some ⟨W.heap.size, 0, none⟩) ds.length ds.length) ds.length (mixd ds k j) := by
                rw [← mixd_set, hz]
                simpa using own6
              have J7 := HJ.out (k + 1) _ ((wr.setCell ⟨W.heap.size, j, none⟩ (.int .i64 ((c : Int) + 1))).setCell ⟨W.heap.size, j, none⟩ (.int .i64 0)) J5 ((Below.refl _ _).setCell (p := ⟨W.heap.size, j, none⟩) (Nat.le_refl _) _)
              replace own7 := Lib.hid own7; replace J7 := Lib.hid J7; replace hmod2 := Lib.hid hmod2
              clear own5 own6 hmod hc' hge3 hz hwd own4
              gi_wp2
              refine wpIn_wide.2 ?_
              go_quiet (fail)
              rename_i nq
              have J8 : Hid (J (k + 1) (((wr.setCell ⟨W.heap.size, j, none⟩ (.int .i64 ((c : Int) + 1))).drewN nq).setCell ⟨W.heap.size, j, none⟩ (.int .i64 0))) := HJ.out _ _ _ J5.out ((below_drewN (Below.refl _ _) nq).setCell (p := ⟨W.heap.size, j, none⟩) (Nat.le_refl _) _)
              gi_wp2
              exact ⟨⟨j, by omega, by go_num, own7.out, hmod2, J8⟩, by simp [intOf]⟩
          · by_cases hlt2 : (c : Int) + 1 < 8
            · have hlt3 : dig ds k j + 1 < 2 ^ wd ds j := by rw [← hc', hwd]; show c + 1 < 8; omega
              have hnx := dig_inc hmod.out hlt3
              have own6 : (wr.setCell ⟨W.heap.size, j, none⟩ (.int .i64 ((c : Int) + 1))).ownsRow W.heap.size 3 1 (.slice (some ⟨W.heap.size, 0, none⟩) ds.length ds.length) ds.length ((digs ds (k + 1)).map (.int .i64)) := by
                rw [← mixd_done hok.2.1 hjl (carry_not hok.2.1 hjl hmod.out hlt3), ← mixd_set, hnx, ← hc']
                simpa using own5
              have hk1 : k + 1 < 2 ^ suf ds 0 := by
                rcases Nat.lt_or_ge (k + 1) (2 ^ suf ds 0) with h9 | h9
                · exact h9
                · exfalso
                  have e9 : k + 1 = 2 ^ suf ds 0 := by omega
                  exact carry_not hok.2.1 hjl hmod.out hlt3 (by rw [e9]; exact Nat.mod_eq_zero_of_dvd (Nat.pow_dvd_pow 2 (suf_le hok.2.1 (Nat.zero_le _) (by omega))))
              have hv2 := Lib.hid (rowVal_all hok.2.1 hk1 (row_cells own6))
              replace own6 := Lib.hid own6
              clear own5 hmod hc' hlt3 hnx hwd hjl own4
              gi_wp2
              refine wpIn_wide.2 ?_
              go_quiet (fail)
              rename_i nq
              have own8 : ((wr.setCell ⟨W.heap.size, j, none⟩ (.int .i64 ((c : Int) + 1))).drewN nq).ownsRow W.heap.size 3 1 (.slice (some ⟨W.heap.size, 0, none⟩) ds.length ds.length) ds.length ((digs ds (k + 1)).map (.int .i64)) := own6.out
              have J8 : Hid (J (k + 1) ((wr.setCell ⟨W.heap.size, j, none⟩ (.int .i64 ((c : Int) + 1))).drewN nq)) := HJ.out _ _ _ J5.out (below_drewN (Below.refl _ _) nq)
              have hv8 := Lib.hid (rowVal_all hok.2.1 hk1 (row_cells own8))
              gi_wp2
              go_roundw
              case rel => exact ⟨k + 1, hk1, own8, J8⟩
              case measure => rw [hv8.out, hval.out]; omega
            · have hge3 : ¬ dig ds k j + 1 < 2 ^ wd ds j := by rw [← hc', hwd]; show ¬ c + 1 < 8; omega
              obtain ⟨hz, hmod2⟩ := dig_carry hok.2.1 hjl hmod.out hge3
              have dlt2 : decide ((c : Int) + 1 < 8) = false := by simpa using hlt2
              have ff2 := own5.frozenAt j
              have cj2 := own5.cellAt j (by simp; omega)
              rw [List.getElem?_set_self (by simp [mixd]; omega)] at cj2
              obtain ⟨own6, _⟩ := own5.stored j (.int .i64 0)
              have own7 : ((wr.setCell ⟨W.heap.size, j, none⟩ (.int .i64 ((c : Int) + 1))).setCell ⟨W.heap.size, j, none⟩ (.int .i64 0)).ownsRow W.heap.size 3 1 (.slice (some ⟨W.heap.size, 0, none⟩) ds.length ds.length) ds.length (mixd ds k j) := by
                rw [← mixd_set, hz]
                simpa using own6
              have J7 := HJ.out (k + 1) _ ((wr.setCell ⟨W.heap.size, j, none⟩ (.int .i64 ((c : Int) + 1))).setCell ⟨W.heap.size, j, none⟩ (.int .i64 0)) J5 ((Below.refl _ _).setCell (p := ⟨W.heap.size, j, none⟩) (Nat.le_refl _) _)
              replace own7 := Lib.hid own7; replace J7 := Lib.hid J7; replace hmod2 := Lib.hid hmod2
              clear own5 own6 hmod hc' hge3 hz hwd own4
              gi_wp2
              refine wpIn_wide.2 ?_
              go_quiet (fail)
              rename_i nq
              have J8 : Hid (J (k + 1) (((wr.setCell ⟨W.heap.size, j, none⟩ (.int .i64 ((c : Int) + 1))).drewN nq).setCell ⟨W.heap.size, j, none⟩ (.int .i64 0))) := HJ.out _ _ _ J5.out ((below_drewN (Below.refl _ _) nq).setCell (p := ⟨W.heap.size, j, none⟩) (Nat.le_refl _) _)
              gi_wp2
              exact ⟨⟨j, by omega, by go_num, own7.out, hmod2, J8⟩, by simp [intOf]⟩
          · by_cases hlt2 : (c : Int) + 1 < 16
            · have hlt3 : dig ds k j + 1 < 2 ^ wd ds j := by rw [← hc', hwd]; show c + 1 < 16; omega
              have hnx := dig_inc hmod.out hlt3
              have own6 : (wr.setCell ⟨W.heap.size, j, none⟩ (.int .i64 ((c : Int) + 1))).ownsRow W.heap.size 3 1 (.slice (some ⟨W.heap.size, 0, none⟩) ds.length ds.length) ds.length ((digs ds (k + 1)).map (.int .i64)) := by
                rw [← mixd_done hok.2.1 hjl (carry_not hok.2.1 hjl hmod.out hlt3), ← mixd_set, hnx, ← hc']
                simpa using own5
              have hk1 : k + 1 < 2 ^ suf ds 0 := by
                rcases Nat.lt_or_ge (k + 1) (2 ^ suf ds 0) with h9 | h9
                · exact h9
                · exfalso
                  have e9 : k + 1 = 2 ^ suf ds 0 := by omega
                  exact carry_not hok.2.1 hjl hmod.out hlt3 (by rw [e9]; exact Nat.mod_eq_zero_of_dvd (Nat.pow_dvd_pow 2 (suf_le hok.2.1 (Nat.zero_le _) (by omega))))
              have hv2 := Lib.hid (rowVal_all hok.2.1 hk1 (row_cells own6))
              replace own6 := Lib.hid own6
              clear own5 hmod hc' hlt3 hnx hwd hjl own4
              gi_wp2
              refine wpIn_wide.2 ?_
              go_quiet (fail)
              rename_i nq
              have own8 : ((wr.setCell ⟨W.heap.size, j, none⟩ (.int .i64 ((c : Int) + 1))).drewN nq).ownsRow W.heap.size 3 1 (.slice (some ⟨W.heap.size, 0, none⟩) ds.length ds.length) ds.length ((digs ds (k + 1)).map (.int .i64)) := own6.out
              have J8 : Hid (J (k + 1) ((wr.setCell ⟨W.heap.size, j, none⟩ (.int .i64 ((c : Int) + 1))).drewN nq)) := HJ.out _ _ _ J5.out (below_drewN (Below.refl _ _) nq)
              have hv8 := Lib.hid (rowVal_all hok.2.1 hk1 (row_cells own8))
              gi_wp2
              go_roundw
              case rel => exact ⟨k + 1, hk1, own8, J8⟩
              case measure => rw [hv8.out, hval.out]; omega
            · have hge3 : ¬ dig ds k j + 1 < 2 ^ wd ds j := by rw [← hc', hwd]; show ¬ c + 1 < 16; omega
              obtain ⟨hz, hmod2⟩ := dig_carry hok.2.1 hjl hmod.out hge3
              have dlt2 : decide ((c : Int) + 1 < 16) = false := by simpa using hlt2
              have ff2 := own5.frozenAt j
              have cj2 := own5.cellAt j (by simp; omega)
              rw [List.getElem?_set_self (by simp [mixd]; omega)] at cj2
              obtain ⟨own6, _⟩ := own5.stored j (.int .i64 0)
              have own7 : ((wr.setCell ⟨W.heap.size, j, none⟩ (.int .i64 ((c : Int) + 1))).setCell ⟨W.heap.size, j, none⟩ (.int .i64 0)).ownsRow W.heap.size 3 1 (.slice (some ⟨W.heap.size, 0, none⟩) ds.length ds.length) ds.length (mixd ds k j) := by
                rw [← mixd_set, hz]
                simpa using own6
              have J7 := HJ.out (k + 1) _ ((wr.setCell ⟨W.heap.size, j, none⟩ (.int .i64 ((c : Int) + 1))).setCell ⟨W.heap.size, j, none⟩ (.int .i64 0)) J5 ((Below.refl _ _).setCell (p := ⟨W.heap.size, j, none⟩) (Nat.le_refl _) _)
              replace own7 := Lib.hid own7; replace J7 := Lib.hid J7; replace hmod2 := Lib.hid hmod2
              clear own5 own6 hmod hc' hge3 hz hwd own4
              gi_wp2
              refine wpIn_wide.2 ?_
              go_quiet (fail)
              rename_i nq
              have J8 : Hid (J (k + 1) (((wr.setCell ⟨W.heap.size, j, none⟩ (.int .i64 ((c : Int) + 1))).drewN nq).setCell ⟨W.heap.size, j, none⟩ (.int .i64 0))) := HJ.out _ _ _ J5.out ((below_drewN (Below.refl _ _) nq).setCell (p := ⟨W.heap.size, j, none⟩) (Nat.le_refl _) _)
              gi_wp2
              exact ⟨⟨j, by omega, by go_num, own7.out, hmod2, J8⟩, by simp [intOf]⟩
    · gi_wp2
      refine bodyPost_ret (results_none rfl _ _ _) rfl ?_
      exact ⟨⟨_, rfl⟩, .inr ⟨k, hk, hJx3⟩⟩
end Go.Proofs.YtklbdfjmhbiheaaDoor
