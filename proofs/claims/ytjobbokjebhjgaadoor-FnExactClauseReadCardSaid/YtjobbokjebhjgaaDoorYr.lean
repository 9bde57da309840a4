/- ClauseRead of the reference. The conditions stand in each statement. -/
import Derived.Test.YtjobbokjebhjgaaDoorYw
import Derived.WideShapes
namespace Go.Proofs.YtjobbokjebhjgaaDoor
open Go.RowKit

def Small (l : List Int) : Prop := ∀ x ∈ l, -1000000000000000000 ≤ x ∧ x ≤ 1000000000000000000
def ReadRet (s : List UInt8) (w : World) (e : Ending) (w' : World) : Prop :=
  ∃ v, e = .returned (.tuple #[v, .bool (readV s).2]) ∧ w'.ownsRow w.heap.size 3 1 v (readV s).1.length ((readV s).1.map (.int .i64)) ∧ Below w.heap.size w w'
theorem ReadRet.no {s : List UInt8} {w w' : World} {v : Value} (h : readV s = ([], false)) (own : w'.ownsRow w.heap.size 3 1 v 0 []) (hb : Below w.heap.size w w') : ReadRet s w (.returned (.tuple #[v, .bool false])) w' :=
  ⟨v, by rw [h], by rw [h]; exact own, hb⟩
theorem ReadRet.yes {s : List UInt8} {w w' : World} {v : Value} {acc : List Int} (h : readV s = (acc, true)) (own : w'.ownsRow w.heap.size 3 1 v acc.length (acc.map (.int .i64))) (hb : Below w.heap.size w w') : ReadRet s w (.returned (.tuple #[v, .bool true])) w' :=
  ⟨v, by rw [h], by rw [h]; exact own, hb⟩
theorem ok_ctx_len : ∀ (l : List Int), (∀ x ∈ l, -700 ≤ x ∧ x ≤ 700) → (ctx l).length ≤ 5 * l.length
  | [], _ => Nat.le_refl _
  | x :: l, h => by
    have hx := h x (by simp)
    have h1 : (Lib.itoa x).length ≤ 4 := by
      have hd : (Lib.decDigits x.natAbs).length ≤ 3 := by rw [← dg_dec]; exact dg_len 2 _ (by omega)
      by_cases hn : x < 0
      · rw [itoa_neg hn]; simp; omega
      · rw [itoa_pos hn]; omega
    have h2 := ok_ctx_len l (fun y hy => h y (by simp [hy]))
    unfold ctx at h2 ⊢
    rw [List.flatMap_cons, List.length_append, List.length_append, List.length_cons, List.length_cons, List.length_nil]
    omega
theorem ok_ctxt_len {l : List Int} (h : okFrom 700 0 l = true) : (ctxt l).length ≤ 3501 := by
  have h1 := ok_ctx_len l (fun x hx => by have := okFrom_mem l 700 0 h (by omega) x hx; omega)
  have h2 := ok_short h
  unfold ctxt
  simp; omega
theorem readV_long {s : List UInt8} (h : 6000 < s.length) : readV s = ([], false) := readV_no fun c hc hs => by
  have := ok_ctxt_len hc
  rw [hs] at h; omega
theorem own_none_at {w w1 : World} (hb : Below w.heap.size w w1) {e : TypeId} {size : Nat} : (w1.alloc (.cells #[] e)).ownsRow w.heap.size e size (.slice (some ⟨w1.heap.size, 0, none⟩) 0 0) 0 [] := own_base own_none hb.size

theorem one_new_int (x : Int) : ∀ u ∈ [Value.int .i64 x], u.oneCell' = true := by
  intro u hu; simp at hu; subst hu; rfl
theorem own_keep2 {w w' : World} {base size n : Nat} {e : TypeId} {v : Value} {xs : List Value} (h : w.ownsRow base e size v n xs) (hb : Below w.heap.size w w') : w'.ownsRow base e size v n xs :=
  h.kept (show w.grownBy w' none from ⟨hb.os, hb.tape, hb.output, hb.size, fun k hk _ => hb.block k hk⟩) (by cases hv : v.ownBlock <;> simp)
theorem str_ne {a b : ByteArray} (h : ¬ a = b) : (a.toList == b.toList) = false := by
  simpa using fun e => h (Go.WideShapes.bytes_inj (by rw [← ByteArray.toList_eq, ← ByteArray.toList_eq, e]))
set_option maxRecDepth 100000 in
set_option maxHeartbeats 8000000 in
theorem clauseRead_spec (s : ByteArray) (w : World) :
    Calls Tryd.prog 9 #[.string s] w (ReadRet s.data.toList w) := by
  obtain ⟨i0, hi, hz0, hz1, hz2⟩ := info_parts infoInt
  by_cases hlong : 6000 < s.size
  · have hV := Lib.hid (readV_long (s := s.data.toList) hlong)
    have hlong2 : (6000 : Int) < (s.size : Int) := by omega
    go_enter Tryd.func9, Tryd.ntmps9
    go_wp2_with fail
    go_ret2
    exact ReadRet.no hV.out (own_none_at (Below.refl _ _)) (below_self_alloc _ _)
  have hs : s.size ≤ 6000 := by omega
  have hsl : Hid (s.data.toList.length = s.size) := rfl
  have hlong2 : ¬ (6000 : Int) < (s.size : Int) := by omega
  have hwl : (wordsL s.data.toList).length ≤ 6001 := by
    have h1 := List.length_filter_le (fun p : List UInt8 => !p.isEmpty) (cutL [] s.data.toList)
    have h2 := cutL_len s.data.toList []
    rw [hsl.out] at h2
    unfold wordsL; omega
  have hws : Hid (∀ k, ((wordsL s.data.toList).getD k []).length ≤ 6000) := fun k => by
    rw [List.getD_eq_getElem?_getD]
    cases hx : (wordsL s.data.toList)[k]? with
    | none => simp
    | some p =>
      have := cutL_size s.data.toList [] p (List.mem_filter.1 (List.mem_of_getElem? hx)).1
      rw [hsl.out] at this; simp at this ⊢; omega
  have C := Lib.hid (l12Words_any s w (by omega))
  have JB : Hid (∀ (k : Nat) (n : Int), k + 1 < (wordsL s.data.toList).length → NumIs ((wordsL s.data.toList).getD k []) n false → readV s.data.toList = ([], false)) := fun _ _ => JS_bad
  have JN : Hid (∀ (k : Nat) (n : Int) (acc : List Int), JS s.data.toList acc k → k + 1 < (wordsL s.data.toList).length → NumIs ((wordsL s.data.toList).getD k []) n true → JS s.data.toList (acc ++ [n]) (k + 1)) := fun _ _ _ => JS_step
  have JE : Hid (∀ (k : Nat) (acc : List Int), JS s.data.toList acc k → ¬ k + 1 < (wordsL s.data.toList).length → ∀ c, okFrom 700 0 c = true → s.data.toList = ctxt c → acc = c) := fun _ _ => JS_end
  generalize wordsL s.data.toList = ws at *
  go_enter Tryd.func9, Tryd.ntmps9
  go_wp2_with fail
  refine C.out.mono ?_; rintro e w1 ⟨v, rfl, own1, hb⟩
  clear C
  obtain ⟨pa, pc, rfl, hr1⟩ := Row.of_own own1
  have hr : Row w1 pa ws.length pc (fun i => strV (ws.getD i [])) := hr1.congr fun i hi => by
    simp [List.getD_eq_getElem?_getD, List.getElem?_eq_getElem hi]
  clear hr1 own1
  have z1 := hb.size
  go_wp2_with fail
  go_loopw [5, 6] (fun o i wr => ∃ (k : Nat) (acc : List Int), i = .int .i64 k ∧ acc.length = k ∧ k ≤ 6001 ∧ Hid (JS s.data.toList acc k) ∧ Hid (Small acc) ∧ wr.ownsRow w1.heap.size 3 1 o acc.length (acc.map (.int .i64)) ∧ Below w1.heap.size w1 wr) (fun _ i _ => ws.length - (intOf i).toNat)
  case atStart => exact ⟨0, [], rfl, rfl, by omega, JS_start _, fun x hx => (by cases hx), own_none, below_self_alloc _ _⟩
  case round =>
    obtain ⟨k, acc, rfl, hak, hk, hJ, hS, own, B⟩ := hrel
    have hB := B.size
    have HAK := Lib.hid hak
    have hac : acc.length ≤ 6001 := by omega
    clear hak
    by_cases hlt : k + 1 < ws.length
    · obtain ⟨_, _, r3⟩ := hr.below B
      rcases r3 with r3 | ⟨b, off, rfl, r4, r5⟩
      · omega
      have r6 : wr.cell? ⟨b, off + k, none⟩ = some (.string ⟨(ws.getD k []).toArray⟩) := r5 k (by omega)
      have N := Lib.hid (l12Num_any ⟨(ws.getD k []).toArray⟩ wr (by have := hws.out k; show (ws.getD k []).toArray.size ≤ _; simp at this ⊢; omega))
      have JB2 := Lib.hid (fun n => JB.out k n hlt)
      have JN2 := Lib.hid (fun n => JN.out k n acc hJ.out hlt)
      clear r5 hr hws JB JN JE hJ
      have hk1 : (k : Int) + 1 < (ws.length : Int) := by omega
      have hk2 : (k : Int) < (ws.length : Int) := by omega
      generalize ws.getD k [] = p at *
      go_wp2_with fail
      refine N.out.mono ?_; rintro e w2 ⟨n, ok, rfl, n0, n1, hN, rfl⟩
      clear N
      cases ok
      · have hV := Lib.hid (JB2.out n hN)
        clear hN JB2 JN2
        go_wp2_with fail
        go_ret2
        exact ReadRet.no hV.out (own_none_at (hb.trans (B.mono z1))) (below_step (hb.trans (B.mono z1)) _)
      · have hJ := Lib.hid (JN2.out n hN)
        clear hN JB2 JN2
        go_wp2_with (at_builtin; refine wpList_append_own _ rfl _ _ 22 rfl w1.heap.size 3 i0 (.int .i64 0) 1 8 Tryd.underlying22 hi hz0 hz1 hz2 rfl (by decide) _ _ _ rfl (own.alloc _) ⟨wr.heap.size, 0, none⟩ 1 1 [Value.int .i64 n] rfl rfl (cell_new_one _ _ _) (one_new_int _) (by unfold maxLen; omega) (by omega) (by simp; omega) ?_; intro v2 w2 own2 hg2 _; refine Hid.out ?_)
        refine Lib.hid ?_
        have B2 : Below w1.heap.size w1 w2 := (below_step B _).grown hg2 (by simp; omega) (fun k hk => (own.lt k hk).1)
        have own3 : w2.ownsRow w1.heap.size 3 1 v2 (acc ++ [n]).length ((acc ++ [n]).map (.int .i64)) := by
          have e1 : acc.map (Value.int .i64) ++ [Value.int .i64 n] = (acc ++ [n]).map (.int .i64) := by simp
          have e2 : acc.length + 1 = (acc ++ [n]).length := by simp
          rw [← e1, ← e2]; exact own2
        have hS2 : Hid (Small (acc ++ [n])) := fun x hx => by
          rcases List.mem_append.1 hx with hx | hx
          · exact hS.out x hx
          · rw [List.mem_singleton.1 hx]; exact ⟨n0, n1⟩
        clear own own2 hg2 hS
        go_wp2_with fail
        exact ⟨⟨k + 1, acc ++ [n], by go_num, by rw [List.length_append, HAK.out]; rfl, by omega, hJ, hS2, own3, B2⟩, by simp [intOf]; omega⟩
    · have hE := Lib.hid (JE.out k acc hJ.out hlt)
      have KB := hb.trans (B.mono z1)
      have own2 := own_base own z1
      have hlt2 : ¬ (k : Int) + 1 < (ws.length : Int) := by omega
      clear JB JN JE hJ hws hr
      by_cases h0 : s.size = 0
      · have hV : Hid (readV s.data.toList = ([], false)) := by
          have : s.data.toList = [] := List.length_eq_zero_iff.1 (by rw [size_list]; exact h0)
          show _ = _
          rw [this]; exact readV_empty
        have he : s.toList.isEmpty = true := by rw [ByteArray.toList_eq, List.isEmpty_iff]; exact List.length_eq_zero_iff.1 (by rw [size_list]; exact h0)
        clear h0 hE
        go_wp2_with fail
        go_ret2
        exact ReadRet.no hV.out (own_none_at KB) (below_step KB _)
      · have hne : s.data.toList ≠ [] := fun e => h0 (by rw [← size_list, e]; rfl)
        have he : s.toList.isEmpty = false := by rw [ByteArray.toList_eq, ← Bool.not_eq_true, List.isEmpty_iff]; exact hne
        have hV := Lib.hid (readV_end hE.out hne)
        have D := Lib.hid (clauseText_spec _ acc wr (Ints.of_own own))
        by_cases hz : ctxV acc = s
        · have hv := Lib.hid (hV.out.1 hz)
          rw [hz] at D
          clear hE hz hne h0 hV own
          go_wp2_with fail
          refine D.out.mono ?_; rintro e w2 ⟨rfl, hb2⟩
          clear D
          replace own2 := own_keep2 own2 hb2
          replace KB := KB.trans (hb2.mono KB.size)
          go_wp2_with fail
          go_ret2
          exact ReadRet.yes hv.out own2 KB
        · have hv := Lib.hid (hV.out.2 hz)
          have hz2 := str_ne hz
          generalize ctxV acc = z at *
          clear hE hz hne h0 hV own
          go_wp2_with fail
          refine D.out.mono ?_; rintro e w2 ⟨rfl, hb2⟩
          clear D
          replace KB := KB.trans (hb2.mono KB.size)
          go_wp2_with fail
          go_ret2
          exact ReadRet.no hv.out (own_none_at KB) (below_step KB _)
end Go.Proofs.YtjobbokjebhjgaaDoor
