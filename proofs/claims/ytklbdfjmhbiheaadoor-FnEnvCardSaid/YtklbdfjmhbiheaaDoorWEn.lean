/- The walk of FnEnv: for every argument the law returns true and leaves alone what was there. -/
import Derived.Test.YtklbdfjmhbiheaaDoorDg
import Derived.Test.YtklbdfjmhbiheaaDoorEv
import Derived.Test.YtklbdfjmhbiheaaDoorBy
import Derived.Deep.RegionHeldLaw
namespace Go.Proofs.YtklbdfjmhbiheaaDoor
open Go.RowKit

theorem declV_snoc {ds : List Dc} {d : Dc} (h : ¬ (NameOk d.1 ∧ d.2 ≤ 4 ∧ ∀ j, j < ds.length → (ds.getD j dz).1 ≠ d.1)) : declV (ds ++ [d]) = false := by
  rw [declV_false]
  intro hd
  obtain ⟨h1, _, h3, h4⟩ := hd.2.1 ds.length (by simp)
  rw [snoc_getD_at] at h1 h3
  refine h ⟨h1, h3, fun j hj => ?_⟩
  have := h4 j hj
  rwa [snoc_getD_at, snoc_getD_lt hj] at this
theorem declV_two {ds : List Dc} (h : 0 < ds.length) : declV (ds ++ [((ds.getD 0 dz).1, 1)]) = false := declV_snoc fun hh => hh.2.2 0 h rfl
theorem declV_none {ds : List Dc} : declV (ds ++ [(⟨#[116, 114, 117, 101]⟩, 1)]) = false := declV_snoc fun hh => hh.1.2.2.2 rfl
theorem declV_wide {ds : List Dc} : declV (ds ++ [(⟨#[111, 111]⟩, 5)]) = false := declV_snoc fun hh => absurd hh.2.1 (by simp)
theorem envV_len {ds : List Dc} {env : List Int} (h : env.length ≠ ds.length) : envV ds env = false := by
  rw [envV_false]; exact fun he => h he.2.1
theorem envV_low {ds : List Dc} {env : List Int} (h : 0 < ds.length) (he : env.length = ds.length) : envV ds (env.set 0 (-1)) = false := by
  rw [envV_false]
  intro hh
  have := hh.2.2 0 h
  rw [List.getD_eq_getElem?_getD (l := env.set 0 (-1)), List.getElem?_set_self (by omega)] at this
  simp only [vokB, decide_eq_true_eq, Option.getD_some] at this
  omega

theorem Ints.news' {w : World} {b o n cap : Nat} {l : List Int} (h : Ints w (.slice (some ⟨b, o, none⟩) n cap) l) : ∀ j u, (l.map (Value.int .i64))[j]? = some u → w.cell? ((⟨b, o, none⟩ : Addr).add j) = some u := by
  obtain ⟨a, c, e, _, _, h3⟩ := h
  cases e
  intro j u hj
  have hlt : j < l.length := by simpa using (List.getElem?_eq_some_iff.1 hj).1
  rcases h3 with h3 | ⟨b', off, e, _, hc⟩
  · omega
  · cases e
    have ea : (Addr.mk b o none).add j = ⟨b, o + j, none⟩ := by simp only [Addr.add]; split <;> simp_all
    rw [ea, hc j hlt]
    simp [List.getD_eq_getElem?_getD, List.getElem?_eq_getElem hlt] at hj ⊢
    exact hj
theorem ints_at {w : World} {a : Option Addr} {n cap : Nat} {l : List Int} (h : Ints w (.slice a n cap) l) (hl : 0 < l.length) : ∃ b o, a = some ⟨b, o, none⟩ := by
  obtain ⟨_, _, e, _, _, h3⟩ := h
  cases e
  rcases h3 with h3 | ⟨b', off, e, _, _⟩
  · omega
  · exact ⟨b', off, e⟩
theorem ints_nil' (w : World) : Ints w (.slice none 0 0) [] := ⟨none, 0, rfl, Nat.le_refl _, Nat.zero_le _, .inl rfl⟩
theorem Decls.row {w : World} {a : Option Addr} {n cap : Nat} {ds : List Dc} (h : Decls w (.slice a n cap) ds) : RowS w a ds.length cap 2 (dcell ds) := by
  obtain ⟨_, _, e, hr, _⟩ := h
  cases e
  exact hr
theorem own_decls {w : World} {base b n cap : Nat} {xs : List Value} {ds : List Dc} (h : w.ownsRow base 39 2 (.slice (some ⟨b, 0, none⟩) n cap) n xs) (hn : n = ds.length) (hx : xs = dflat ds) (hN : Named ds) : Decls w (.slice (some ⟨b, 0, none⟩) n cap) ds := by
  subst hn hx
  exact OwnD.decls h hN
theorem own_ints {w : World} {base b n cap : Nat} {xs : List Value} {l : List Int} (h : w.ownsRow base 3 1 (.slice (some ⟨b, 0, none⟩) n cap) n xs) (hn : n = l.length) (hx : xs = l.map (.int .i64)) : Ints w (.slice (some ⟨b, 0, none⟩) n cap) l := by
  subst hn hx
  exact Ints.of_own h


set_option linter.unusedVariables false in
set_option maxRecDepth 100000 in
set_option maxHeartbeats 8000000 in
theorem walk_FnEnv (v : Value) {w : World} (h : BytesIn w v) :
    Calls Tryd.prog 6 #[v] w fun e w' => e = .returned (.bool true) ∧ Below w.heap.size w w' := by
  obtain ⟨a0, len, cp, rfl⟩ : ∃ a len cap, v = .slice a len cap := by
    rcases h with ⟨a, c, rfl⟩ | ⟨b, off, len, cap, rfl, _⟩ <;> exact ⟨_, _, _, rfl⟩
  by_cases hb : (1048576 : Int) < len
  · go_enter Tryd.func6, Tryd.ntmps6
    go_wp2_with fail
    go_ret
    exact ⟨rfl, Below.refl _ _⟩
  obtain ⟨i0, hi, hz0, hz1, hz2⟩ := info_parts infoDecl
  obtain ⟨i1, hi1, hy0, hy1, hy2⟩ := info_parts infoInt
  go_enter Tryd.func6, Tryd.ntmps6
  go_wp2_with fail
  refine (drawEnvOk_any _ _ h).mono ?_
  rintro e w1 ⟨_, rfl, ⟨s, t, ds, env, rfl, D, I, l6, l7⟩, K⟩
  obtain ⟨a1, c1, rfl, hc1, hc1'⟩ := D.form
  obtain ⟨a2, c2, rfl⟩ : ∃ a c, t = .slice a env.length c := by obtain ⟨a, c, rfl, _⟩ := I; exact ⟨a, c, rfl⟩
  have HN := Lib.hid D.named
  obtain ⟨de, hde⟩ : ∃ z, z = declV ds := ⟨_, rfl⟩
  obtain ⟨en, hen⟩ : ∃ z, z = envV ds env := ⟨_, rfl⟩
  have eI := fun w' (D' : Decls w' (.slice a1 ds.length c1) ds) (I' : Ints w' (.slice a2 env.length c2) env) => envOk_impl _ _ ds env w' D' I'
  have eS := fun w' (D' : Decls w' (.slice a1 ds.length c1) ds) (I' : Ints w' (.slice a2 env.length c2) env) => envOk_spec _ _ ds env w' D' I'
  have dI := fun w' (D' : Decls w' (.slice a1 ds.length c1) ds) => declOk_impl _ ds w' D'
  have dS := fun w' (D' : Decls w' (.slice a1 ds.length c1) ds) => declOk_spec _ ds w' D'
  rw [← hde] at dI dS
  rw [← hen] at eI eS
  have EI := Lib.hid eI
  have ES := Lib.hid eS
  have DI := Lib.hid dI
  have DS := Lib.hid dS
  have HDE := Lib.hid hde
  have HEN := Lib.hid hen
  clear eI eS dI dS hde hen
  go_wp2_with fail
  refine (EI.out _ D I).mono ?_; rintro e w2 ⟨rfl, hb2⟩
  replace K := below_two K hb2
  replace D := D.below hb2
  replace I := I.below hb2
  clear hb2
  go_wp2_with fail
  refine (ES.out _ D I).mono ?_; rintro e w3 ⟨rfl, hb3⟩
  replace K := below_two K hb3
  replace D := D.below hb3
  replace I := I.below hb3
  clear hb3 ES
  have hxx : (en != en) = false := by simp
  have hdd : (de != de) = false := by simp

  cases de
  · obtain rfl : en = false := by rw [HEN.out, envV_false]; exact fun he => declV_false.1 HDE.out.symm he.1
    go_wp2_with fail
    refine (DI.out _ D).mono ?_; rintro e w4 ⟨rfl, hb⟩
    replace K := below_two K hb
    replace D := D.below hb
    replace I := I.below hb
    clear hb
    go_wp2_with fail
    refine (DS.out _ D).mono ?_; rintro e w5 ⟨rfl, mw5, hmw5⟩
    have hb := drew_back hmw5
    replace K := below_two K hb
    replace D := D.below hb
    replace I := I.below hb
    clear hb hmw5
    go_wp2_with fail
    refine (DI.out _ D).mono ?_; rintro e w6 ⟨rfl, hb⟩
    replace K := below_two K hb
    replace D := D.below hb
    replace I := I.below hb
    clear hb

    go_wp2_with fail
    go_ret
    exact ⟨rfl, K⟩
  · have go : ∀ P : Prop, P → P := fun _ h => h
    clear go
    go_wp2_with fail
    refine (DI.out _ D).mono ?_; rintro e w4 ⟨rfl, hb⟩
    replace K := below_two K hb
    replace D := D.below hb
    replace I := I.below hb
    clear hb
    go_wp2_with fail
    refine (DS.out _ D).mono ?_; rintro e w5 ⟨rfl, mw5, hmw5⟩
    have hb := drew_back hmw5
    replace K := below_two K hb
    replace D := D.below hb
    replace I := I.below hb
    clear hb hmw5

    cases en
    · skip
      go_wp2_with fail
      refine (DI.out _ D).mono ?_; rintro e w7 ⟨rfl, hb⟩
      replace K := below_two K hb
      replace D := D.below hb
      replace I := I.below hb
      clear hb
      by_cases h0 : ds.length = 0
      · clear DI DS EI
        rw [h0]
        go_wp2_with fail
        go_ret
        exact ⟨rfl, K⟩
      · skip
        obtain ⟨sb, so, rfl, slt, g0, g1⟩ := (Decls.row D).duo (k := 0) (by omega)
        rw [Nat.zero_mul, Nat.add_zero] at g0
        replace g0 := one_drew g0
        replace D := D.drew
        replace K := K.drew
        replace I : Ints w7.drew (.slice a2 env.length c2) env := I
        have hone := Lib.hid (dflat_one ds)
        have hlen := dflat_len ds
        have hnm := HN.out 0 (by omega)
        have T := Lib.hid (declV_two (ds := ds) (by omega))
        obtain ⟨nm, hnmd⟩ : ∃ nm, nm = (ds.getD 0 dz).1 := ⟨_, rfl⟩
        rw [← hnmd] at g0 hnm T
        clear hnmd g1
        have hd1 : (0 : Int) < (ds.length : Int) := by omega
        have hd2 : 0 < ds.length := by omega
        have bE : Below w7.drew.heap.size w7.drew (w7.drew.alloc (.cells #[] 39)) := below_self_alloc w7.drew (.cells #[] 39)
        have bC : Below w7.drew.heap.size w7.drew (w7.drew.alloc (.cells #[.string nm, .int .i64 1] 39)) := below_self_alloc w7.drew (.cells #[.string nm, .int .i64 1] 39)
        have bEC := below_step bE (.cells #[.string nm, .int .i64 1] 39)
        have bCE := below_step bC (.cells #[] 39)
        have oE : (w7.drew.alloc (.cells #[] 39)).ownsRow w7.heap.size 39 2 (.slice (some ⟨w7.heap.size, 0, none⟩) 0 0) 0 [] := World.ownsRow_lit (e := 39) (size := 2) w7.drew #[] 0 (Nat.le_refl _) (Nat.zero_le _) rfl
        have oEC := oE.alloc (.cells #[.string nm, .int .i64 1] 39)
        have oCE : ((w7.drew.alloc (.cells #[.string nm, .int .i64 1] 39)).alloc (.cells #[] 39)).ownsRow w7.heap.size 39 2 (.slice (some ⟨w7.heap.size + 1, 0, none⟩) 0 0) 0 [] := by
          have := World.ownsRow_lit (e := 39) (size := 2) (base := w7.heap.size) (w7.drew.alloc (.cells #[.string nm, .int .i64 1] 39)) #[] 0 (by simp) (Nat.zero_le _) rfl
          simpa using this
        have nE := Lib.hid (RowS.news (Decls.row (D.below bE)))
        have nEC := Lib.hid (RowS.news (Decls.row (D.below bEC)))
        have nCE := Lib.hid (RowS.news (Decls.row (D.below bCE)))
        have kE := one_keep bE slt g0
        have kC := one_keep bC slt g0
        have kEC := one_keep bEC slt g0
        have kCE := one_keep bCE slt g0
        have hC0 : (w7.drew.alloc (.cells #[.string nm, .int .i64 1] 39)).heap[w7.heap.size]? = some (.cells #[.string nm, .int .i64 1] 39 (0, 0)) := heap_alloc_new _ _
        have hCE : ((w7.drew.alloc (.cells #[.string nm, .int .i64 1] 39)).alloc (.cells #[] 39)).heap[w7.heap.size]? = some (.cells #[.string nm, .int .i64 1] 39 (0, 0)) := block_grown hC0 (World.grownBy_alloc _ _ none) (by simp)
        have hEC : ((w7.drew.alloc (.cells #[] 39)).alloc (.cells #[.string nm, .int .i64 1] 39)).heap[w7.heap.size + 1]? = some (.cells #[.string nm, .int .i64 1] 39 (0, 0)) := by
          have := heap_alloc_new (w7.drew.alloc (.cells #[] 39)) (.cells #[.string nm, .int .i64 1] 39)
          simpa using this
        go_wp2_with fail
        go_region_held_law (fun wx : World => wx.cell? ⟨sb, so, none⟩ = some (.string nm)) (first | (with_reducible assumption) | exact kE | exact kC | exact kEC | exact kCE | exact sS1 | exact sS2 | exact sS3) (first
          | (refine step_append_lies _ rfl _ _ _ rfl w7.heap.size 39 i0 (.agg #[.string ⟨#[]⟩, .int .i64 0]) 2 24 Tryd.underlying25 hi hz0 hz1 hz2 rfl (by omega) (.slice (some ⟨w7.heap.size, 0, none⟩) 0 0) 0 [] rfl oE ⟨sb, so, none⟩ ds.length c1 (dflat ds) rfl hlen nE.out hone.out (by omega) (by unfold maxLen; omega) (by omega) (by simp <;> omega) _ rfl ?_; intro b1 cap1 z1 own1 hg1 hat1 hlt1; have B1 : Below w7.drew.heap.size w7.drew z1 := below_grows bE hg1 (own_row_ge oE); have sS1 := one_keep B1 slt g0; have B1a := below_step B1 (.cells #[.string nm, .int .i64 1] 39); have sS2 := one_keep B1a slt g0; have own1b : z1.ownsRow w7.heap.size 39 2 (.slice (some ⟨b1, 0, none⟩) ds.length cap1) ds.length (dflat ds) := (by simpa using own1); have own1a := own1b.alloc (.cells #[.string nm, .int .i64 1] 39); have hX := (heap_alloc_new z1 (.cells #[.string nm, .int .i64 1] 39)))
          | (refine step_append_lies _ rfl _ _ _ rfl w7.heap.size 39 i0 (.agg #[.string ⟨#[]⟩, .int .i64 0]) 2 24 Tryd.underlying25 hi hz0 hz1 hz2 rfl (by omega) (.slice (some ⟨w7.heap.size, 0, none⟩) 0 0) 0 [] rfl oEC ⟨sb, so, none⟩ ds.length c1 (dflat ds) rfl hlen nEC.out hone.out (by omega) (by unfold maxLen; omega) (by omega) (by simp <;> omega) _ rfl ?_; intro b1 cap1 z1 own1 hg1 hat1 hlt1; have B1 : Below w7.drew.heap.size w7.drew z1 := below_grows bEC hg1 (own_row_ge oEC); have sS1 := one_keep B1 slt g0; have B1a := below_step B1 (.cells #[.string nm, .int .i64 1] 39); have sS2 := one_keep B1a slt g0; have own1b : z1.ownsRow w7.heap.size 39 2 (.slice (some ⟨b1, 0, none⟩) ds.length cap1) ds.length (dflat ds) := (by simpa using own1); have own1a := own1b.alloc (.cells #[.string nm, .int .i64 1] 39); have hX := block_grown hEC hg1 (by simp [Value.ownBlock]))
          | (refine step_append_lies _ rfl _ _ _ rfl w7.heap.size 39 i0 (.agg #[.string ⟨#[]⟩, .int .i64 0]) 2 24 Tryd.underlying25 hi hz0 hz1 hz2 rfl (by omega) (.slice (some ⟨w7.heap.size + 1, 0, none⟩) 0 0) 0 [] rfl oCE ⟨sb, so, none⟩ ds.length c1 (dflat ds) rfl hlen nCE.out hone.out (by omega) (by unfold maxLen; omega) (by omega) (by simp <;> omega) _ rfl ?_; intro b1 cap1 z1 own1 hg1 hat1 hlt1; have B1 : Below w7.drew.heap.size w7.drew z1 := below_grows bCE hg1 (own_row_ge oCE); have sS1 := one_keep B1 slt g0; have B1a := below_step B1 (.cells #[.string nm, .int .i64 1] 39); have sS2 := one_keep B1a slt g0; have own1b : z1.ownsRow w7.heap.size 39 2 (.slice (some ⟨b1, 0, none⟩) ds.length cap1) ds.length (dflat ds) := (by simpa using own1); have own1a := own1b.alloc (.cells #[.string nm, .int .i64 1] 39); have hX := block_grown hCE hg1 (by simp [Value.ownBlock]))
          | (refine step_append_lies _ rfl _ _ _ rfl w7.heap.size 39 i0 (.agg #[.string ⟨#[]⟩, .int .i64 0]) 2 24 Tryd.underlying25 hi hz0 hz1 hz2 rfl (by omega) (.slice (some ⟨b1, 0, none⟩) ds.length cap1) ds.length (dflat ds) rfl own1a ⟨z1.heap.size, 0, none⟩ 1 1 [.string nm, .int .i64 1] rfl rfl (World.news_of_block hX) (by simp [Value.oneCell']) (by omega) (by unfold maxLen; omega) (by omega) B1a.size _ rfl ?_; intro b2 cap2 z2 own2 hg2 hat2 hlt2; have B2 : Below w7.drew.heap.size w7.drew z2 := below_grows B1a hg2 (own_row_ge own1a); have sS3 := one_keep B2 slt g0; have FD : Decls z2 (.slice (some ⟨b2, 0, none⟩) (ds.length + 1) cap2) (ds ++ [(nm, 1)]) := (by have := own_decls own2 (ds := ds ++ [(nm, 1)]) (by simp) (by simp [dflat_append, dflat]) (Named.snoc HN.out hnm); simpa using this))
          | (refine step_append_lies _ rfl _ _ _ rfl w7.heap.size 39 i0 (.agg #[.string ⟨#[]⟩, .int .i64 0]) 2 24 Tryd.underlying25 hi hz0 hz1 hz2 rfl (by omega) (.slice (some ⟨b1, 0, none⟩) (0 + ds.length) cap1) (0 + ds.length) ([] ++ dflat ds) rfl own1 ⟨w7.heap.size + 1, 0, none⟩ 1 1 [.string nm, .int .i64 1] rfl rfl (World.news_of_block hX) (by simp [Value.oneCell']) (by omega) (by unfold maxLen; omega) (by omega) B1.size _ rfl ?_; intro b2 cap2 z2 own2 hg2 hat2 hlt2; have B2 : Below w7.drew.heap.size w7.drew z2 := below_grows B1 hg2 (own_row_ge own1); have sS3 := one_keep B2 slt g0; have FD : Decls z2 (.slice (some ⟨b2, 0, none⟩) (ds.length + 1) cap2) (ds ++ [(nm, 1)]) := (by have := own_decls own2 (ds := ds ++ [(nm, 1)]) (by simp) (by simp [dflat_append, dflat]) (Named.snoc HN.out hnm); simpa using this))
          | (refine step_append_lies _ rfl _ _ _ rfl w7.heap.size 39 i0 (.agg #[.string ⟨#[]⟩, .int .i64 0]) 2 24 Tryd.underlying25 hi hz0 hz1 hz2 rfl (by omega) (.slice (some ⟨b1, 0, none⟩) (0 + ds.length) cap1) (0 + ds.length) ([] ++ dflat ds) rfl own1 ⟨w7.heap.size, 0, none⟩ 1 1 [.string nm, .int .i64 1] rfl rfl (World.news_of_block hX) (by simp [Value.oneCell']) (by omega) (by unfold maxLen; omega) (by omega) B1.size _ rfl ?_; intro b2 cap2 z2 own2 hg2 hat2 hlt2; have B2 : Below w7.drew.heap.size w7.drew z2 := below_grows B1 hg2 (own_row_ge own1); have sS3 := one_keep B2 slt g0; have FD : Decls z2 (.slice (some ⟨b2, 0, none⟩) (ds.length + 1) cap2) (ds ++ [(nm, 1)]) := (by have := own_decls own2 (ds := ds ++ [(nm, 1)]) (by simp) (by simp [dflat_append, dflat]) (Named.snoc HN.out hnm); simpa using this)))
        all_goals
          replace K := below_two K B2
          replace D := D.below B2
          replace I := I.below B2
          clear g0 bE bC bEC bCE oE oEC oCE nE nEC nCE kE kC kEC kCE hC0 hCE hEC own1 hg1 hat1 hlt1 B1 sS1 B1a sS2 own1b own1a hX own2 hg2 hat2 B2 sS3
          have q0 : (z2.alloc (.cells #[] 39)).ownsRow z2.heap.size 39 2 (.slice (some ⟨z2.heap.size, 0, none⟩) 0 0) 0 [] := World.ownsRow_lit (e := 39) (size := 2) z2 #[] 0 (Nat.le_refl _) (Nat.zero_le _) rfl
          have q1 := Lib.hid (RowS.news (Decls.row (D.below (below_self_alloc z2 (.cells #[] 39)))))
          go_wp2_with (at_builtin; refine wpList_append_lies _ rfl _ _ _ rfl z2.heap.size 39 i0 (.agg #[.string ⟨#[]⟩, .int .i64 0]) 2 24 Tryd.underlying25 hi hz0 hz1 hz2 rfl (by omega) _ 0 [] rfl q0 ⟨sb, so, none⟩ ds.length c1 (dflat ds) rfl hlen q1.out hone.out (by omega) (by unfold maxLen; omega) (by omega) (by simp) _ rfl ?_)
          intro bp capp xp ownp hgp hatp hltp
          have Bp : Below z2.heap.size z2 xp := below_grows (below_self_alloc z2 (.cells #[] 39)) hgp (own_row_ge q0)
          clear q0 q1 hgp hatp
          have q2 : (xp.alloc (.cells #[.string ⟨#[116, 114, 117, 101]⟩, .int .i64 1] 39)).ownsRow z2.heap.size 39 2 (.slice (some ⟨bp, 0, none⟩) ds.length capp) ds.length (dflat ds) := ownp.alloc _
          have Bp' := below_step Bp (.cells #[.string ⟨#[116, 114, 117, 101]⟩, .int .i64 1] 39)
          iterate 6 go_step
          refine wpList_append_lies _ rfl _ _ _ rfl z2.heap.size 39 i0 (.agg #[.string ⟨#[]⟩, .int .i64 0]) 2 24 Tryd.underlying25 hi hz0 hz1 hz2 rfl (by omega) (.slice (some ⟨bp, 0, none⟩) ds.length capp) ds.length (dflat ds) (by rfl) q2 ⟨xp.heap.size, 0, none⟩ 1 1 [.string ⟨#[116, 114, 117, 101]⟩, .int .i64 1] rfl rfl (World.news_of_block (heap_alloc_new xp _)) (by simp [Value.oneCell']) (by omega) (by unfold maxLen; omega) (by omega) (by have := Bp.size; simp; omega) _ rfl ?_
          intro bp2 capp2 yp ownp2 hgp hatp hltp2
          have Bp2 : Below z2.heap.size z2 yp := below_grows Bp' hgp (own_row_ge q2)
          have FDp : Decls yp (.slice (some ⟨bp2, 0, none⟩) (ds.length + 1) capp2) (ds ++ [(⟨#[116, 114, 117, 101]⟩, 1)]) := by
            have := own_decls ownp2 (ds := (ds ++ [(⟨#[116, 114, 117, 101]⟩, 1)])) (by simp) (by simp [dflat_append, dflat]) (Named.snoc HN.out (by decide))
            simpa using this
          replace K := below_two K Bp2
          replace D := D.below Bp2
          replace I := I.below Bp2
          replace FD := FD.below Bp2
          clear q2 Bp Bp' ownp ownp2 Bp2 hgp hatp
          have q0 : (yp.alloc (.cells #[] 39)).ownsRow yp.heap.size 39 2 (.slice (some ⟨yp.heap.size, 0, none⟩) 0 0) 0 [] := World.ownsRow_lit (e := 39) (size := 2) yp #[] 0 (Nat.le_refl _) (Nat.zero_le _) rfl
          have q1 := Lib.hid (RowS.news (Decls.row (D.below (below_self_alloc yp (.cells #[] 39)))))
          go_wp2_with (at_builtin; refine wpList_append_lies _ rfl _ _ _ rfl yp.heap.size 39 i0 (.agg #[.string ⟨#[]⟩, .int .i64 0]) 2 24 Tryd.underlying25 hi hz0 hz1 hz2 rfl (by omega) _ 0 [] rfl q0 ⟨sb, so, none⟩ ds.length c1 (dflat ds) rfl hlen q1.out hone.out (by omega) (by unfold maxLen; omega) (by omega) (by simp) _ rfl ?_)
          intro br capr xr ownr hgr hatr hltr
          have Br : Below yp.heap.size yp xr := below_grows (below_self_alloc yp (.cells #[] 39)) hgr (own_row_ge q0)
          clear q0 q1 hgr hatr
          have q2 : (xr.alloc (.cells #[.string ⟨#[111, 111]⟩, .int .i64 5] 39)).ownsRow yp.heap.size 39 2 (.slice (some ⟨br, 0, none⟩) ds.length capr) ds.length (dflat ds) := ownr.alloc _
          have Br' := below_step Br (.cells #[.string ⟨#[111, 111]⟩, .int .i64 5] 39)
          iterate 6 go_step
          refine wpList_append_lies _ rfl _ _ _ rfl yp.heap.size 39 i0 (.agg #[.string ⟨#[]⟩, .int .i64 0]) 2 24 Tryd.underlying25 hi hz0 hz1 hz2 rfl (by omega) (.slice (some ⟨br, 0, none⟩) ds.length capr) ds.length (dflat ds) (by rfl) q2 ⟨xr.heap.size, 0, none⟩ 1 1 [.string ⟨#[111, 111]⟩, .int .i64 5] rfl rfl (World.news_of_block (heap_alloc_new xr _)) (by simp [Value.oneCell']) (by omega) (by unfold maxLen; omega) (by omega) (by have := Br.size; simp; omega) _ rfl ?_
          intro br2 capr2 yr ownr2 hgr hatr hltr2
          have Br2 : Below yp.heap.size yp yr := below_grows Br' hgr (own_row_ge q2)
          have FDr : Decls yr (.slice (some ⟨br2, 0, none⟩) (ds.length + 1) capr2) (ds ++ [(⟨#[111, 111]⟩, 5)]) := by
            have := own_decls ownr2 (ds := (ds ++ [(⟨#[111, 111]⟩, 5)])) (by simp) (by simp [dflat_append, dflat]) (Named.snoc HN.out (by decide))
            simpa using this
          replace K := below_two K Br2
          replace D := D.below Br2
          replace I := I.below Br2
          replace FD := FD.below Br2
          replace FDp := FDp.below Br2
          clear q2 Br Br' ownr ownr2 Br2 hgr hatr
          have T1 := declOk_impl _ _ _ FD
          rw [T.out] at T1
          clear T hone hlen hnm hd1 hd2 slt
          go_wp2_with fail
          refine T1.mono ?_; rintro e x1 ⟨rfl, hb⟩
          clear T1 FD
          replace K := below_two K hb
          replace D := D.below hb
          replace I := I.below hb
          replace FDp := FDp.below hb
          replace FDr := FDr.below hb
          clear hb
          have T2 := declOk_impl _ _ _ FDp
          rw [declV_none] at T2
          go_wp2_with fail
          refine T2.mono ?_; rintro e x2 ⟨rfl, hb⟩
          clear T2 FDp
          replace K := below_two K hb
          replace D := D.below hb
          replace I := I.below hb
          replace FDr := FDr.below hb
          clear hb
          have T3 := declOk_impl _ _ _ FDr
          rw [declV_wide] at T3
          go_wp2_with fail
          refine T3.mono ?_; rintro e x3 ⟨rfl, hb⟩
          clear T3 FDr
          replace K := below_two K hb
          replace D := D.below hb
          replace I := I.below hb
          clear hb
          go_wp2_with fail
          go_ret
          exact ⟨rfl, K⟩

    · skip
      go_wp2_with fail
      refine (DI.out _ D).mono ?_; rintro e w6 ⟨rfl, hb⟩
      replace K := below_two K hb
      replace D := D.below hb
      replace I := I.below hb
      clear hb
      go_wp2_with fail
      refine (DI.out _ D).mono ?_; rintro e w7 ⟨rfl, hb⟩
      replace K := below_two K hb
      replace D := D.below hb
      replace I := I.below hb
      clear hb
      by_cases h0 : ds.length = 0
      · have he0 : env.length = 0 := by rw [(envV_true.1 HEN.out.symm).2.1, h0]
        clear DI DS EI
        rw [h0, he0]
        go_wp2_with fail
        go_ret
        exact ⟨rfl, K⟩
      · skip
        obtain ⟨sb, so, rfl, slt, g0, g1⟩ := (Decls.row D).duo (k := 0) (by omega)
        rw [Nat.zero_mul, Nat.add_zero] at g0
        replace g0 := one_drew g0
        replace D := D.drew
        replace K := K.drew
        replace I : Ints w7.drew (.slice a2 env.length c2) env := I
        have hone := Lib.hid (dflat_one ds)
        have hlen := dflat_len ds
        have hnm := HN.out 0 (by omega)
        have T := Lib.hid (declV_two (ds := ds) (by omega))
        obtain ⟨nm, hnmd⟩ : ∃ nm, nm = (ds.getD 0 dz).1 := ⟨_, rfl⟩
        rw [← hnmd] at g0 hnm T
        clear hnmd g1
        have hd1 : (0 : Int) < (ds.length : Int) := by omega
        have hd2 : 0 < ds.length := by omega
        have bE : Below w7.drew.heap.size w7.drew (w7.drew.alloc (.cells #[] 39)) := below_self_alloc w7.drew (.cells #[] 39)
        have bC : Below w7.drew.heap.size w7.drew (w7.drew.alloc (.cells #[.string nm, .int .i64 1] 39)) := below_self_alloc w7.drew (.cells #[.string nm, .int .i64 1] 39)
        have bEC := below_step bE (.cells #[.string nm, .int .i64 1] 39)
        have bCE := below_step bC (.cells #[] 39)
        have oE : (w7.drew.alloc (.cells #[] 39)).ownsRow w7.heap.size 39 2 (.slice (some ⟨w7.heap.size, 0, none⟩) 0 0) 0 [] := World.ownsRow_lit (e := 39) (size := 2) w7.drew #[] 0 (Nat.le_refl _) (Nat.zero_le _) rfl
        have oEC := oE.alloc (.cells #[.string nm, .int .i64 1] 39)
        have oCE : ((w7.drew.alloc (.cells #[.string nm, .int .i64 1] 39)).alloc (.cells #[] 39)).ownsRow w7.heap.size 39 2 (.slice (some ⟨w7.heap.size + 1, 0, none⟩) 0 0) 0 [] := by
          have := World.ownsRow_lit (e := 39) (size := 2) (base := w7.heap.size) (w7.drew.alloc (.cells #[.string nm, .int .i64 1] 39)) #[] 0 (by simp) (Nat.zero_le _) rfl
          simpa using this
        have nE := Lib.hid (RowS.news (Decls.row (D.below bE)))
        have nEC := Lib.hid (RowS.news (Decls.row (D.below bEC)))
        have nCE := Lib.hid (RowS.news (Decls.row (D.below bCE)))
        have kE := one_keep bE slt g0
        have kC := one_keep bC slt g0
        have kEC := one_keep bEC slt g0
        have kCE := one_keep bCE slt g0
        have hC0 : (w7.drew.alloc (.cells #[.string nm, .int .i64 1] 39)).heap[w7.heap.size]? = some (.cells #[.string nm, .int .i64 1] 39 (0, 0)) := heap_alloc_new _ _
        have hCE : ((w7.drew.alloc (.cells #[.string nm, .int .i64 1] 39)).alloc (.cells #[] 39)).heap[w7.heap.size]? = some (.cells #[.string nm, .int .i64 1] 39 (0, 0)) := block_grown hC0 (World.grownBy_alloc _ _ none) (by simp)
        have hEC : ((w7.drew.alloc (.cells #[] 39)).alloc (.cells #[.string nm, .int .i64 1] 39)).heap[w7.heap.size + 1]? = some (.cells #[.string nm, .int .i64 1] 39 (0, 0)) := by
          have := heap_alloc_new (w7.drew.alloc (.cells #[] 39)) (.cells #[.string nm, .int .i64 1] 39)
          simpa using this
        go_wp2_with fail
        go_region_held_law (fun wx : World => wx.cell? ⟨sb, so, none⟩ = some (.string nm)) (first | (with_reducible assumption) | exact kE | exact kC | exact kEC | exact kCE | exact sS1 | exact sS2 | exact sS3) (first
          | (refine step_append_lies _ rfl _ _ _ rfl w7.heap.size 39 i0 (.agg #[.string ⟨#[]⟩, .int .i64 0]) 2 24 Tryd.underlying25 hi hz0 hz1 hz2 rfl (by omega) (.slice (some ⟨w7.heap.size, 0, none⟩) 0 0) 0 [] rfl oE ⟨sb, so, none⟩ ds.length c1 (dflat ds) rfl hlen nE.out hone.out (by omega) (by unfold maxLen; omega) (by omega) (by simp <;> omega) _ rfl ?_; intro b1 cap1 z1 own1 hg1 hat1 hlt1; have B1 : Below w7.drew.heap.size w7.drew z1 := below_grows bE hg1 (own_row_ge oE); have sS1 := one_keep B1 slt g0; have B1a := below_step B1 (.cells #[.string nm, .int .i64 1] 39); have sS2 := one_keep B1a slt g0; have own1b : z1.ownsRow w7.heap.size 39 2 (.slice (some ⟨b1, 0, none⟩) ds.length cap1) ds.length (dflat ds) := (by simpa using own1); have own1a := own1b.alloc (.cells #[.string nm, .int .i64 1] 39); have hX := (heap_alloc_new z1 (.cells #[.string nm, .int .i64 1] 39)))
          | (refine step_append_lies _ rfl _ _ _ rfl w7.heap.size 39 i0 (.agg #[.string ⟨#[]⟩, .int .i64 0]) 2 24 Tryd.underlying25 hi hz0 hz1 hz2 rfl (by omega) (.slice (some ⟨w7.heap.size, 0, none⟩) 0 0) 0 [] rfl oEC ⟨sb, so, none⟩ ds.length c1 (dflat ds) rfl hlen nEC.out hone.out (by omega) (by unfold maxLen; omega) (by omega) (by simp <;> omega) _ rfl ?_; intro b1 cap1 z1 own1 hg1 hat1 hlt1; have B1 : Below w7.drew.heap.size w7.drew z1 := below_grows bEC hg1 (own_row_ge oEC); have sS1 := one_keep B1 slt g0; have B1a := below_step B1 (.cells #[.string nm, .int .i64 1] 39); have sS2 := one_keep B1a slt g0; have own1b : z1.ownsRow w7.heap.size 39 2 (.slice (some ⟨b1, 0, none⟩) ds.length cap1) ds.length (dflat ds) := (by simpa using own1); have own1a := own1b.alloc (.cells #[.string nm, .int .i64 1] 39); have hX := block_grown hEC hg1 (by simp [Value.ownBlock]))
          | (refine step_append_lies _ rfl _ _ _ rfl w7.heap.size 39 i0 (.agg #[.string ⟨#[]⟩, .int .i64 0]) 2 24 Tryd.underlying25 hi hz0 hz1 hz2 rfl (by omega) (.slice (some ⟨w7.heap.size + 1, 0, none⟩) 0 0) 0 [] rfl oCE ⟨sb, so, none⟩ ds.length c1 (dflat ds) rfl hlen nCE.out hone.out (by omega) (by unfold maxLen; omega) (by omega) (by simp <;> omega) _ rfl ?_; intro b1 cap1 z1 own1 hg1 hat1 hlt1; have B1 : Below w7.drew.heap.size w7.drew z1 := below_grows bCE hg1 (own_row_ge oCE); have sS1 := one_keep B1 slt g0; have B1a := below_step B1 (.cells #[.string nm, .int .i64 1] 39); have sS2 := one_keep B1a slt g0; have own1b : z1.ownsRow w7.heap.size 39 2 (.slice (some ⟨b1, 0, none⟩) ds.length cap1) ds.length (dflat ds) := (by simpa using own1); have own1a := own1b.alloc (.cells #[.string nm, .int .i64 1] 39); have hX := block_grown hCE hg1 (by simp [Value.ownBlock]))
          | (refine step_append_lies _ rfl _ _ _ rfl w7.heap.size 39 i0 (.agg #[.string ⟨#[]⟩, .int .i64 0]) 2 24 Tryd.underlying25 hi hz0 hz1 hz2 rfl (by omega) (.slice (some ⟨b1, 0, none⟩) ds.length cap1) ds.length (dflat ds) rfl own1a ⟨z1.heap.size, 0, none⟩ 1 1 [.string nm, .int .i64 1] rfl rfl (World.news_of_block hX) (by simp [Value.oneCell']) (by omega) (by unfold maxLen; omega) (by omega) B1a.size _ rfl ?_; intro b2 cap2 z2 own2 hg2 hat2 hlt2; have B2 : Below w7.drew.heap.size w7.drew z2 := below_grows B1a hg2 (own_row_ge own1a); have sS3 := one_keep B2 slt g0; have FD : Decls z2 (.slice (some ⟨b2, 0, none⟩) (ds.length + 1) cap2) (ds ++ [(nm, 1)]) := (by have := own_decls own2 (ds := ds ++ [(nm, 1)]) (by simp) (by simp [dflat_append, dflat]) (Named.snoc HN.out hnm); simpa using this))
          | (refine step_append_lies _ rfl _ _ _ rfl w7.heap.size 39 i0 (.agg #[.string ⟨#[]⟩, .int .i64 0]) 2 24 Tryd.underlying25 hi hz0 hz1 hz2 rfl (by omega) (.slice (some ⟨b1, 0, none⟩) (0 + ds.length) cap1) (0 + ds.length) ([] ++ dflat ds) rfl own1 ⟨w7.heap.size + 1, 0, none⟩ 1 1 [.string nm, .int .i64 1] rfl rfl (World.news_of_block hX) (by simp [Value.oneCell']) (by omega) (by unfold maxLen; omega) (by omega) B1.size _ rfl ?_; intro b2 cap2 z2 own2 hg2 hat2 hlt2; have B2 : Below w7.drew.heap.size w7.drew z2 := below_grows B1 hg2 (own_row_ge own1); have sS3 := one_keep B2 slt g0; have FD : Decls z2 (.slice (some ⟨b2, 0, none⟩) (ds.length + 1) cap2) (ds ++ [(nm, 1)]) := (by have := own_decls own2 (ds := ds ++ [(nm, 1)]) (by simp) (by simp [dflat_append, dflat]) (Named.snoc HN.out hnm); simpa using this))
          | (refine step_append_lies _ rfl _ _ _ rfl w7.heap.size 39 i0 (.agg #[.string ⟨#[]⟩, .int .i64 0]) 2 24 Tryd.underlying25 hi hz0 hz1 hz2 rfl (by omega) (.slice (some ⟨b1, 0, none⟩) (0 + ds.length) cap1) (0 + ds.length) ([] ++ dflat ds) rfl own1 ⟨w7.heap.size, 0, none⟩ 1 1 [.string nm, .int .i64 1] rfl rfl (World.news_of_block hX) (by simp [Value.oneCell']) (by omega) (by unfold maxLen; omega) (by omega) B1.size _ rfl ?_; intro b2 cap2 z2 own2 hg2 hat2 hlt2; have B2 : Below w7.drew.heap.size w7.drew z2 := below_grows B1 hg2 (own_row_ge own1); have sS3 := one_keep B2 slt g0; have FD : Decls z2 (.slice (some ⟨b2, 0, none⟩) (ds.length + 1) cap2) (ds ++ [(nm, 1)]) := (by have := own_decls own2 (ds := ds ++ [(nm, 1)]) (by simp) (by simp [dflat_append, dflat]) (Named.snoc HN.out hnm); simpa using this)))
        all_goals
          replace K := below_two K B2
          replace D := D.below B2
          replace I := I.below B2
          clear g0 bE bC bEC bCE oE oEC oCE nE nEC nCE kE kC kEC kCE hC0 hCE hEC own1 hg1 hat1 hlt1 B1 sS1 B1a sS2 own1b own1a hX own2 hg2 hat2 B2 sS3
          have q0 : (z2.alloc (.cells #[] 39)).ownsRow z2.heap.size 39 2 (.slice (some ⟨z2.heap.size, 0, none⟩) 0 0) 0 [] := World.ownsRow_lit (e := 39) (size := 2) z2 #[] 0 (Nat.le_refl _) (Nat.zero_le _) rfl
          have q1 := Lib.hid (RowS.news (Decls.row (D.below (below_self_alloc z2 (.cells #[] 39)))))
          go_wp2_with (at_builtin; refine wpList_append_lies _ rfl _ _ _ rfl z2.heap.size 39 i0 (.agg #[.string ⟨#[]⟩, .int .i64 0]) 2 24 Tryd.underlying25 hi hz0 hz1 hz2 rfl (by omega) _ 0 [] rfl q0 ⟨sb, so, none⟩ ds.length c1 (dflat ds) rfl hlen q1.out hone.out (by omega) (by unfold maxLen; omega) (by omega) (by simp) _ rfl ?_)
          intro bp capp xp ownp hgp hatp hltp
          have Bp : Below z2.heap.size z2 xp := below_grows (below_self_alloc z2 (.cells #[] 39)) hgp (own_row_ge q0)
          clear q0 q1 hgp hatp
          have q2 : (xp.alloc (.cells #[.string ⟨#[116, 114, 117, 101]⟩, .int .i64 1] 39)).ownsRow z2.heap.size 39 2 (.slice (some ⟨bp, 0, none⟩) ds.length capp) ds.length (dflat ds) := ownp.alloc _
          have Bp' := below_step Bp (.cells #[.string ⟨#[116, 114, 117, 101]⟩, .int .i64 1] 39)
          iterate 6 go_step
          refine wpList_append_lies _ rfl _ _ _ rfl z2.heap.size 39 i0 (.agg #[.string ⟨#[]⟩, .int .i64 0]) 2 24 Tryd.underlying25 hi hz0 hz1 hz2 rfl (by omega) (.slice (some ⟨bp, 0, none⟩) ds.length capp) ds.length (dflat ds) (by rfl) q2 ⟨xp.heap.size, 0, none⟩ 1 1 [.string ⟨#[116, 114, 117, 101]⟩, .int .i64 1] rfl rfl (World.news_of_block (heap_alloc_new xp _)) (by simp [Value.oneCell']) (by omega) (by unfold maxLen; omega) (by omega) (by have := Bp.size; simp; omega) _ rfl ?_
          intro bp2 capp2 yp ownp2 hgp hatp hltp2
          have Bp2 : Below z2.heap.size z2 yp := below_grows Bp' hgp (own_row_ge q2)
          have FDp : Decls yp (.slice (some ⟨bp2, 0, none⟩) (ds.length + 1) capp2) (ds ++ [(⟨#[116, 114, 117, 101]⟩, 1)]) := by
            have := own_decls ownp2 (ds := (ds ++ [(⟨#[116, 114, 117, 101]⟩, 1)])) (by simp) (by simp [dflat_append, dflat]) (Named.snoc HN.out (by decide))
            simpa using this
          replace K := below_two K Bp2
          replace D := D.below Bp2
          replace I := I.below Bp2
          replace FD := FD.below Bp2
          clear q2 Bp Bp' ownp ownp2 Bp2 hgp hatp
          have q0 : (yp.alloc (.cells #[] 39)).ownsRow yp.heap.size 39 2 (.slice (some ⟨yp.heap.size, 0, none⟩) 0 0) 0 [] := World.ownsRow_lit (e := 39) (size := 2) yp #[] 0 (Nat.le_refl _) (Nat.zero_le _) rfl
          have q1 := Lib.hid (RowS.news (Decls.row (D.below (below_self_alloc yp (.cells #[] 39)))))
          go_wp2_with (at_builtin; refine wpList_append_lies _ rfl _ _ _ rfl yp.heap.size 39 i0 (.agg #[.string ⟨#[]⟩, .int .i64 0]) 2 24 Tryd.underlying25 hi hz0 hz1 hz2 rfl (by omega) _ 0 [] rfl q0 ⟨sb, so, none⟩ ds.length c1 (dflat ds) rfl hlen q1.out hone.out (by omega) (by unfold maxLen; omega) (by omega) (by simp) _ rfl ?_)
          intro br capr xr ownr hgr hatr hltr
          have Br : Below yp.heap.size yp xr := below_grows (below_self_alloc yp (.cells #[] 39)) hgr (own_row_ge q0)
          clear q0 q1 hgr hatr
          have q2 : (xr.alloc (.cells #[.string ⟨#[111, 111]⟩, .int .i64 5] 39)).ownsRow yp.heap.size 39 2 (.slice (some ⟨br, 0, none⟩) ds.length capr) ds.length (dflat ds) := ownr.alloc _
          have Br' := below_step Br (.cells #[.string ⟨#[111, 111]⟩, .int .i64 5] 39)
          iterate 6 go_step
          refine wpList_append_lies _ rfl _ _ _ rfl yp.heap.size 39 i0 (.agg #[.string ⟨#[]⟩, .int .i64 0]) 2 24 Tryd.underlying25 hi hz0 hz1 hz2 rfl (by omega) (.slice (some ⟨br, 0, none⟩) ds.length capr) ds.length (dflat ds) (by rfl) q2 ⟨xr.heap.size, 0, none⟩ 1 1 [.string ⟨#[111, 111]⟩, .int .i64 5] rfl rfl (World.news_of_block (heap_alloc_new xr _)) (by simp [Value.oneCell']) (by omega) (by unfold maxLen; omega) (by omega) (by have := Br.size; simp; omega) _ rfl ?_
          intro br2 capr2 yr ownr2 hgr hatr hltr2
          have Br2 : Below yp.heap.size yp yr := below_grows Br' hgr (own_row_ge q2)
          have FDr : Decls yr (.slice (some ⟨br2, 0, none⟩) (ds.length + 1) capr2) (ds ++ [(⟨#[111, 111]⟩, 5)]) := by
            have := own_decls ownr2 (ds := (ds ++ [(⟨#[111, 111]⟩, 5)])) (by simp) (by simp [dflat_append, dflat]) (Named.snoc HN.out (by decide))
            simpa using this
          replace K := below_two K Br2
          replace D := D.below Br2
          replace I := I.below Br2
          replace FD := FD.below Br2
          replace FDp := FDp.below Br2
          clear q2 Br Br' ownr ownr2 Br2 hgr hatr
          have T1 := declOk_impl _ _ _ FD
          rw [T.out] at T1
          clear T hone hlen hnm hd1 hd2 slt
          go_wp2_with fail
          refine T1.mono ?_; rintro e x1 ⟨rfl, hb⟩
          clear T1 FD
          replace K := below_two K hb
          replace D := D.below hb
          replace I := I.below hb
          replace FDp := FDp.below hb
          replace FDr := FDr.below hb
          clear hb
          have T2 := declOk_impl _ _ _ FDp
          rw [declV_none] at T2
          go_wp2_with fail
          refine T2.mono ?_; rintro e x2 ⟨rfl, hb⟩
          clear T2 FDp
          replace K := below_two K hb
          replace D := D.below hb
          replace I := I.below hb
          replace FDr := FDr.below hb
          clear hb
          have T3 := declOk_impl _ _ _ FDr
          rw [declV_wide] at T3
          go_wp2_with fail
          refine T3.mono ?_; rintro e x3 ⟨rfl, hb⟩
          clear T3 FDr
          replace K := below_two K hb
          replace D := D.below hb
          replace I := I.below hb
          clear hb
          have he := (envV_true.1 HEN.out.symm).2.1
          have HLE := Lib.hid he
          have HLO := Lib.hid (envV_low (by omega) he)
          have he1 : 0 < env.length := by omega
          clear he
          have q0 : (x3.alloc (.cells #[] 3)).ownsRow x3.heap.size 3 1 (.slice (some ⟨x3.heap.size, 0, none⟩) 0 0) 0 [] := World.ownsRow_lit (e := 3) (size := 1) x3 #[] 0 (Nat.le_refl _) (Nat.zero_le _) rfl
          obtain ⟨eb, eo, rfl⟩ := ints_at I he1
          have q1 := Lib.hid (Ints.news' (I.below (below_self_alloc x3 (.cells #[] 3))))
          have hml := (List.length_map (Value.int .i64) : (env.map (Value.int .i64)).length = env.length)
          have hmo := Lib.hid (ints_oneCell .i64 env)
          go_wp2_with (at_builtin; refine wpList_append_lies _ rfl _ _ _ rfl x3.heap.size 3 i1 (.int .i64 0) 1 8 Tryd.underlying30 hi1 hy0 hy1 hy2 rfl (by omega) _ 0 [] rfl q0 ⟨eb, eo, none⟩ env.length c2 (env.map (.int .i64)) rfl (by omega) q1.out hmo.out (by omega) (by unfold maxLen; omega) (by omega) (by simp) _ rfl ?_)
          intro bs caps xs owns hgs hats hlts
          have Bs : Below x3.heap.size x3 xs := below_grows (below_self_alloc x3 (.cells #[] 3)) hgs (own_row_ge q0)
          clear q0 q1 hgs hats
          have q2 : (xs.alloc (.cells #[.int .i64 0] 3)).ownsRow x3.heap.size 3 1 (.slice (some ⟨bs, 0, none⟩) env.length caps) env.length (env.map (.int .i64)) := owns.alloc _
          have Bs' := below_step Bs (.cells #[.int .i64 0] 3)
          go_step
          go_step
          go_step
          refine wpList_append_lies _ rfl _ _ _ rfl x3.heap.size 3 i1 (.int .i64 0) 1 8 Tryd.underlying30 hi1 hy0 hy1 hy2 rfl (by omega) (.slice (some ⟨bs, 0, none⟩) env.length caps) env.length (env.map (.int .i64)) (by rfl) q2 ⟨xs.heap.size, 0, none⟩ 1 1 [.int .i64 0] rfl rfl (World.news_of_block (heap_alloc_new xs _)) (by simp [Value.oneCell']) (by omega) (by unfold maxLen; omega) (by omega) (by have := Bs.size; simp; omega) _ rfl ?_
          intro bs2 caps2 ys owns2 hgs hats hlts2
          have Bs2 : Below x3.heap.size x3 ys := below_grows Bs' hgs (own_row_ge q2)
          have FM : Ints ys (.slice (some ⟨bs2, 0, none⟩) (env.length + 1) caps2) (env ++ [0]) := by
            have := own_ints owns2 (l := env ++ [0]) (by simp) (by simp)
            simpa using this
          replace K := below_two K Bs2
          replace D := D.below Bs2
          replace I := I.below Bs2
          clear q2 Bs Bs' owns owns2 Bs2 hgs hats hlts hlts2
          have q0 : (ys.alloc (.cells #[] 3)).ownsRow ys.heap.size 3 1 (.slice (some ⟨ys.heap.size, 0, none⟩) 0 0) 0 [] := World.ownsRow_lit (e := 3) (size := 1) ys #[] 0 (Nat.le_refl _) (Nat.zero_le _) rfl
          have q1 := Lib.hid (Ints.news' (I.below (below_self_alloc ys (.cells #[] 3))))
          go_wp2_with (at_builtin; refine wpList_append_lies _ rfl _ _ _ rfl ys.heap.size 3 i1 (.int .i64 0) 1 8 Tryd.underlying30 hi1 hy0 hy1 hy2 rfl (by omega) _ 0 [] rfl q0 ⟨eb, eo, none⟩ env.length c2 (env.map (.int .i64)) rfl (by omega) q1.out hmo.out (by omega) (by unfold maxLen; omega) (by omega) (by simp) _ rfl ?_)
          intro bt capt xt ownt hgt hatt hltt
          have Bt : Below ys.heap.size ys xt := below_grows (below_self_alloc ys (.cells #[] 3)) hgt (own_row_ge q0)
          replace ownt : xt.ownsRow ys.heap.size 3 1 (.slice (some ⟨bt, 0, none⟩) env.length capt) env.length (env.map (.int .i64)) := by simpa using ownt
          have cc : ∃ u, xt.cell? ⟨bt, 0, none⟩ = some u := by
            have := ownt.cellAt 0 (by omega)
            obtain ⟨u, hu⟩ := getElem?_lt_some (l := env.map (Value.int .i64)) (i := 0) (by simp; omega)
            exact ⟨u, this.trans hu⟩
          obtain ⟨u, cc⟩ := cc
          have ff : xt.frozen? ⟨bt, 0, none⟩ = false := ownt.frozenAt _
          obtain ⟨ownu, hgu⟩ := ownt.stored 0 (.int .i64 (-1))
          have Bu := below_grows Bt hgu (own_row_ge ownt)
          have FL : Ints (xt.setCell ⟨bt, 0, none⟩ (.int .i64 (-1))) (.slice (some ⟨bt, 0, none⟩) env.length capt) (env.set 0 (-1)) := own_ints ownu (l := env.set 0 (-1)) (by simp) (by rw [List.map_set])
          replace K := below_two K Bu
          replace D := D.below Bu
          replace FM := FM.below Bu
          clear q0 q1 Bt Bu ownt ownu hgt hatt hgu hltt I hmo
          have he2 : (0 : Int) < (env.length : Int) := by omega
          have T1 := envOk_impl _ _ ds _ _ D FM
          rw [envV_len (by have := HLE.out; simp; omega)] at T1
          go_wp2_with fail
          refine T1.mono ?_; rintro e x1 ⟨rfl, hb⟩
          clear T1 FM
          replace K := below_two K hb
          replace D := D.below hb
          replace FL := FL.below hb
          clear hb
          have T2 := envOk_impl _ _ ds _ _ D FL
          rw [HLO.out] at T2
          go_wp2_with fail
          refine T2.mono ?_; rintro e x2 ⟨rfl, hb⟩
          clear T2 FL
          replace K := below_two K hb
          replace D := D.below hb
          clear hb
          have T3 := envOk_impl _ _ ds _ _ D (ints_nil' _)
          rw [envV_len (by have := HLE.out; simp; omega)] at T3
          go_wp2_with fail
          refine T3.mono ?_; rintro e x3 ⟨rfl, hb⟩
          clear T3
          replace K := below_two K hb
          go_wp2_with fail
          go_ret
          exact ⟨rfl, K⟩

end Go.Proofs.YtklbdfjmhbiheaaDoor
