/- Reading a clause's text: plain facts of lists of bytes. The conditions stand in each statement. -/
import Derived.Test.YtjobbokjebhjgaaDoorYt
import Derived.Lib.AtoiTie
import Derived.Lib.AtoiBound
namespace Go.Proofs.YtjobbokjebhjgaaDoor
open Go.RowKit

theorem dig_val {d : Nat} (h : d < 10) : Lib.digitVal (UInt8.ofNat (48 + d)) = some d := by
  have : d = 0 ∨ d = 1 ∨ d = 2 ∨ d = 3 ∨ d = 4 ∨ d = 5 ∨ d = 6 ∨ d = 7 ∨ d = 8 ∨ d = 9 := by omega
  rcases this with rfl | rfl | rfl | rfl | rfl | rfl | rfl | rfl | rfl | rfl <;> rfl
theorem decFrom_snoc : ∀ (l : List UInt8) (acc n : Nat) (b : UInt8) (d : Nat), Lib.decFrom acc l = some n → Lib.digitVal b = some d → Lib.decFrom acc (l ++ [b]) = some (n * 10 + d)
  | [], acc, n, b, d, h, hb => by
    simp only [Lib.decFrom, Option.some.injEq] at h
    subst h
    simp [Lib.decFrom, hb]
  | c :: r, acc, n, b, d, h, hb => by
    simp only [Lib.decFrom, List.cons_append] at h ⊢
    cases hc : Lib.digitVal c with
    | none => rw [hc] at h; cases h
    | some e => rw [hc] at h; exact decFrom_snoc r _ n b d h hb
theorem dec_from (n : Nat) : Lib.decFrom 0 (Lib.decDigits n) = some n := by
  induction n using Nat.strongRecOn with
  | _ n ih =>
    rw [Lib.decDigits]
    by_cases h : n < 10
    · rw [dif_pos h]
      show (match Lib.digitVal (UInt8.ofNat (48 + n)) with | some d => Lib.decFrom (0 * 10 + d) [] | none => none) = some n
      rw [dig_val h]
      simp [Lib.decFrom]
    · rw [dif_neg h, decFrom_snoc _ 0 (n / 10) _ (n % 10) (ih (n / 10) (by omega)) (dig_val (Nat.mod_lt _ (by omega)))]
      congr 1; omega
theorem dec_digits (n : Nat) : ∀ b ∈ Lib.decDigits n, 48 ≤ b.toNat ∧ b.toNat ≤ 57 := by
  have one : ∀ d, d < 10 → 48 ≤ (UInt8.ofNat (48 + d)).toNat ∧ (UInt8.ofNat (48 + d)).toNat ≤ 57 := fun d hd => by
    rw [UInt8.toNat_ofNat']; omega
  induction n using Nat.strongRecOn with
  | _ n ih =>
    rw [Lib.decDigits]
    by_cases h : n < 10
    · rw [dif_pos h]
      intro b hb
      rw [List.mem_singleton.1 hb]; exact one n h
    · rw [dif_neg h]
      intro b hb
      rcases List.mem_append.1 hb with hb | hb
      · exact ih (n / 10) (by omega) b hb
      · rw [List.mem_singleton.1 hb]; exact one _ (Nat.mod_lt _ (by omega))
theorem dec_ne (n : Nat) : Lib.decDigits n ≠ [] := by
  rw [Lib.decDigits]
  split <;> simp
theorem dec_head (n : Nat) (h0 : n ≠ 0) : (Lib.decDigits n).head? ≠ some 48 := by
  induction n using Nat.strongRecOn with
  | _ n ih =>
    rw [Lib.decDigits]
    by_cases h : n < 10
    · rw [dif_pos h]
      have : n = 1 ∨ n = 2 ∨ n = 3 ∨ n = 4 ∨ n = 5 ∨ n = 6 ∨ n = 7 ∨ n = 8 ∨ n = 9 := by omega
      rcases this with rfl | rfl | rfl | rfl | rfl | rfl | rfl | rfl | rfl <;> decide
    · rw [dif_neg h]
      have h1 := ih (n / 10) (by omega) (by omega)
      cases hc : Lib.decDigits (n / 10) with
      | nil => exact absurd hc (dec_ne _)
      | cons b r => rw [hc] at h1; simpa using h1
theorem dec_len {n : Nat} (h : n ≤ 1000000) : (Lib.decDigits n).length ≤ 7 := by
  rw [← dg_dec]; exact dg_len 6 n (by omega)
theorem itoa_neg {x : Int} (h : x < 0) : Lib.itoa x = 45 :: Lib.decDigits x.natAbs := by rw [Lib.itoa, if_pos h]
theorem itoa_pos {x : Int} (h : ¬ x < 0) : Lib.itoa x = Lib.decDigits x.natAbs := by rw [Lib.itoa, if_neg h]; congr 1; omega
theorem itoa_byte (x : Int) : ∀ b ∈ Lib.itoa x, b ≠ 32 ∧ b.toNat < 128 := by
  have one : ∀ b : UInt8, 48 ≤ b.toNat ∧ b.toNat ≤ 57 → b ≠ 32 ∧ b.toNat < 128 := fun b hb => ⟨by rintro rfl; exact absurd hb.1 (by decide), by omega⟩
  by_cases h : x < 0
  · rw [itoa_neg h]
    intro b hb
    rcases List.mem_cons.1 hb with rfl | hb
    · decide
    · exact one b (dec_digits _ b hb)
  · rw [itoa_pos h]
    exact fun b hb => one b (dec_digits _ b hb)
theorem itoa_ne (x : Int) : Lib.itoa x ≠ [] := by
  by_cases h : x < 0
  · rw [itoa_neg h]; simp
  · rw [itoa_pos h]; exact dec_ne _
theorem dec_nat (n : Nat) : Lib.decNat (Lib.decDigits n) = some n := by
  unfold Lib.decNat
  rw [if_neg (by simpa using dec_ne n)]
  exact dec_from n
theorem atoi_itoa {x : Int} (h0 : -1000000 ≤ x) (h1 : x ≤ 1000000) : Lib.atoiAll (Lib.itoa x) = .ok x := by
  have hl := dec_len (n := x.natAbs) (by omega)
  by_cases h : x < 0
  · rw [itoa_neg h, Lib.atoiAll_short _ (by simp; omega)]
    have e : Lib.atoi (45 :: Lib.decDigits x.natAbs) = (Lib.decNat (Lib.decDigits x.natAbs)).map fun (m : Nat) => -(m : Int) := by simp [Lib.atoi]
    rw [e, dec_nat]
    show Lib.NumEnd.ok (-((x.natAbs : Nat) : Int)) = _
    congr 1; omega
  · rw [itoa_pos h, Lib.atoiAll_short _ (by omega)]
    have hd := dec_digits x.natAbs
    have hn := dec_nat x.natAbs
    cases hc : Lib.decDigits x.natAbs with
    | nil => exact absurd hc (dec_ne _)
    | cons b r =>
      rw [hc] at hd hn
      have hb := hd b (by simp)
      have e1 : (b == 45) = false := by
        rw [beq_eq_false_iff_ne]; rintro rfl; exact absurd hb.1 (by decide)
      have e2 : (b == 43) = false := by
        rw [beq_eq_false_iff_ne]; rintro rfl; exact absurd hb.1 (by decide)
      have e : Lib.atoi (b :: r) = (Lib.decNat (b :: r)).map fun (m : Nat) => (m : Int) := by simp [Lib.atoi, e1, e2]
      rw [e, hn]
      show Lib.NumEnd.ok ((x.natAbs : Nat) : Int) = _
      congr 1; omega

/-- what the program reads: the numbers ahead of each space -/
def rdI (cur : List UInt8) : List UInt8 → Option (List Int)
  | [] => some []
  | b :: r => if b = 32 then (match Lib.atoiAll cur with | .ok v => (rdI [] r).map (v :: ·) | _ => none) else rdI (cur ++ [b]) r
theorem rdI_app : ∀ (p cur r : List UInt8), (∀ b ∈ p, b ≠ 32) → rdI cur (p ++ r) = rdI (cur ++ p) r
  | [], cur, r, _ => by simp
  | b :: p, cur, r, h => by
    rw [List.cons_append, rdI, if_neg (h b (by simp)), rdI_app p _ r (fun x hx => h x (by simp [hx])), List.append_assoc]; rfl
theorem rdI_ctx : ∀ (l : List Int), (∀ x ∈ l, -1000000 ≤ x ∧ x ≤ 1000000) → rdI [] (ctx l ++ [48]) = some l
  | [], _ => by decide
  | x :: l, h => by
    have hx := h x (by simp)
    have e : ctx (x :: l) ++ [48] = Lib.itoa x ++ (32 :: (ctx l ++ [48])) := by unfold ctx; simp
    rw [e, rdI_app _ _ _ (fun b hb => (itoa_byte x b hb).1), List.nil_append, rdI, if_pos rfl, atoi_itoa hx.1 hx.2, rdI_ctx l (fun y hy => h y (by simp [hy]))]
    rfl
theorem rdI_ok {l : List Int} (h : okFrom 700 0 l = true) : rdI [] (ctxt l) = some l :=
  rdI_ctx l (fun x hx => by have := okFrom_mem l 700 0 h (by omega) x hx; omega)
theorem ctxt_ascii (l : List Int) : ∀ b ∈ ctxt l, b.toNat < 128 := by
  intro b hb
  unfold ctxt ctx at hb
  rcases List.mem_append.1 hb with hb | hb
  · obtain ⟨x, _, hx⟩ := List.mem_flatMap.1 hb
    rcases List.mem_append.1 hx with hx | hx
    · exact (itoa_byte x b hx).2
    · rw [List.mem_singleton.1 hx]; decide
  · rw [List.mem_singleton.1 hb]; decide
/-- what both read -/
def readV (s : List UInt8) : List Int × Bool :=
  match rdI [] s with
  | some c => if okFrom 700 0 c = true ∧ s = ctxt c then (c, true) else ([], false)
  | none => ([], false)
theorem readV_yes {s : List UInt8} {c : List Int} (h : okFrom 700 0 c = true) (hs : s = ctxt c) : readV s = (c, true) := by
  unfold readV
  rw [hs, rdI_ok h]
  simp [h]
theorem readV_no {s : List UInt8} (h : ∀ c, okFrom 700 0 c = true → s ≠ ctxt c) : readV s = ([], false) := by
  unfold readV
  cases hr : rdI [] s with
  | none => rfl
  | some c => simp only; rw [if_neg (fun hc => h c hc.1 hc.2)]
/-- at the end: whoever has read acc, if it is right what was written, answers readV -/
theorem readV_end {s : List UInt8} {acc : List Int} (h : ∀ c, okFrom 700 0 c = true → s = ctxt c → acc = c) (hs : s ≠ []) : (ctxV acc = ⟨s.toArray⟩ → readV s = (acc, true)) ∧ (ctxV acc ≠ ⟨s.toArray⟩ → readV s = ([], false)) := by
  refine ⟨fun e => ?_, fun e => readV_no fun c hc hs2 => ?_⟩
  · unfold ctxV at e
    by_cases hk : okFrom 700 0 acc = true
    · rw [if_pos hk] at e
      refine readV_yes hk ?_
      have := congrArg (fun b : ByteArray => b.data.toList) e
      simpa using this.symm
    · rw [if_neg hk] at e
      have := congrArg (fun b : ByteArray => b.data.toList) e
      exact absurd (by simpa using this.symm) hs
  · obtain rfl := h c hc hs2
    exact e (by unfold ctxV; rw [if_pos hc, hs2])
theorem readV_empty : readV [] = ([], false) := readV_no fun c _ h => by unfold ctxt at h; simp at h

/-! ### the program's way: places -/
def seg (s : List UInt8) (f p : Nat) : List UInt8 := (s.drop f).take (p - f)
theorem seg_self (s : List UInt8) (f : Nat) : seg s f f = [] := by simp [seg]
theorem seg_snoc {s : List UInt8} {f p : Nat} (hf : f ≤ p) (hp : p < s.length) : seg s f (p + 1) = seg s f p ++ [s[p]] := by
  unfold seg
  rw [show p + 1 - f = (p - f) + 1 by omega, List.take_succ_eq_append_getElem (by simp; omega)]
  congr 2
  rw [List.getElem_drop]; congr 1; omega
theorem drop_here {s : List UInt8} {p : Nat} (hp : p < s.length) : s.drop p = s[p] :: s.drop (p + 1) := List.drop_eq_getElem_cons hp
def JI (s : List UInt8) (acc : List Int) (f p : Nat) : Prop := ∀ c, okFrom 700 0 c = true → s = ctxt c → (rdI (seg s f p) (s.drop p)).map (acc ++ ·) = some c
theorem JI_start (s : List UInt8) : JI s [] 0 0 := fun c hc hs => by
  rw [seg_self, List.drop_zero, hs, rdI_ok hc]; rfl
theorem JI_skip {s : List UInt8} {acc : List Int} {f p p' : Nat} (h : JI s acc f p) (hf : f ≤ p) (hp : p < s.length) (hd : s[p].toNat < 128 → s[p] ≠ 32 ∧ p' = p + 1) : JI s acc f p' := fun c hc hs => by
  have ha : s[p].toNat < 128 := by
    have : s[p] ∈ ctxt c := by rw [← hs]; exact List.getElem_mem _
    exact ctxt_ascii c _ this
  obtain ⟨h1, rfl⟩ := hd ha
  have := h c hc hs
  rw [drop_here hp, rdI, if_neg h1] at this
  rw [seg_snoc hf hp]; exact this
theorem JI_num {s : List UInt8} {acc : List Int} {f p p' : Nat} {v : Int} (h : JI s acc f p) (hp : p < s.length) (hd : s[p].toNat < 128 → s[p] = 32 ∧ p' = p + 1) (hv : Lib.atoiAll (seg s f p) = .ok v) : JI s (acc ++ [v]) (p + 1) p' := fun c hc hs => by
  have ha : s[p].toNat < 128 := by
    have : s[p] ∈ ctxt c := by rw [← hs]; exact List.getElem_mem _
    exact ctxt_ascii c _ this
  obtain ⟨h1, rfl⟩ := hd ha
  have := h c hc hs
  rw [drop_here hp, rdI, if_pos h1, hv] at this
  rw [seg_self, ← this]
  cases rdI [] (s.drop (p + 1)) <;> simp
theorem JI_bad {s : List UInt8} {acc : List Int} {f p : Nat} (h : JI s acc f p) (hp : p < s.length) (hd : s[p].toNat < 128 → s[p] = 32) (hv : ∀ v, Lib.atoiAll (seg s f p) ≠ .ok v) : readV s = ([], false) := readV_no fun c hc hs => by
  have ha : s[p].toNat < 128 := by
    have : s[p] ∈ ctxt c := by rw [← hs]; exact List.getElem_mem _
    exact ctxt_ascii c _ this
  have := h c hc hs
  rw [drop_here hp, rdI, if_pos (hd ha)] at this
  cases hx : Lib.atoiAll (seg s f p) with
  | ok v => exact hv v hx
  | range => rw [hx] at this; cases this
  | _ => rw [hx] at this; cases this
theorem JI_end {s : List UInt8} {acc : List Int} {f p : Nat} (h : JI s acc f p) (hp : s.length ≤ p) : ∀ c, okFrom 700 0 c = true → s = ctxt c → acc = c := fun c hc hs => by
  have := h c hc hs
  rw [List.drop_eq_nil_of_le hp, rdI] at this
  simpa using this

/-! ### the reference's way: words -/
def cutL (cur : List UInt8) : List UInt8 → List (List UInt8)
  | [] => [cur]
  | b :: r => if b = 32 then cur :: cutL [] r else cutL (cur ++ [b]) r
theorem cutL_app : ∀ (p cur r : List UInt8), (∀ b ∈ p, b ≠ 32) → cutL cur (p ++ r) = cutL (cur ++ p) r
  | [], cur, r, _ => by simp
  | b :: p, cur, r, h => by
    rw [List.cons_append, cutL, if_neg (h b (by simp)), cutL_app p _ r (fun x hx => h x (by simp [hx])), List.append_assoc]; rfl
theorem cutL_ctx : ∀ (l : List Int), cutL [] (ctx l ++ [48]) = l.map Lib.itoa ++ [[48]]
  | [] => by decide
  | x :: l => by
    have e : ctx (x :: l) ++ [48] = Lib.itoa x ++ (32 :: (ctx l ++ [48])) := by unfold ctx; simp
    rw [e, cutL_app _ _ _ (fun b hb => (itoa_byte x b hb).1), List.nil_append, cutL, if_pos rfl, cutL_ctx l]
    rfl
theorem cutL_len : ∀ (s cur : List UInt8), (cutL cur s).length ≤ s.length + 1
  | [], _ => Nat.le_refl _
  | b :: r, cur => by
    rw [cutL]
    split
    · have := cutL_len r []; simp; omega
    · have := cutL_len r (cur ++ [b]); simp; omega
theorem cutL_size : ∀ (s cur : List UInt8), ∀ p ∈ cutL cur s, p.length ≤ cur.length + s.length
  | [], cur => fun p hp => by rw [List.mem_singleton.1 hp]; simp
  | b :: r, cur => fun p hp => by
    rw [cutL] at hp
    split at hp
    · rcases List.mem_cons.1 hp with rfl | hp
      · simp
      · have := cutL_size r [] p hp; simp at this ⊢; omega
    · have := cutL_size r (cur ++ [b]) p hp; simp at this ⊢; omega
/-- the words -/
def wordsL (s : List UInt8) : List (List UInt8) := (cutL [] s).filter fun p => !p.isEmpty
theorem wordsL_ctx (l : List Int) : wordsL (ctxt l) = l.map Lib.itoa ++ [[48]] := by
  unfold wordsL ctxt
  rw [cutL_ctx, List.filter_eq_self.2]
  intro p hp
  rcases List.mem_append.1 hp with hp | hp
  · obtain ⟨x, _, rfl⟩ := List.mem_map.1 hp
    simpa using itoa_ne x
  · rw [List.mem_singleton.1 hp]; rfl
def NumIs (s : List UInt8) (n : Int) (ok : Bool) : Prop := ∀ x, -700 ≤ x → x ≤ 700 → x ≠ 0 → s = Lib.itoa x → ok = true ∧ n = x
def JS (s : List UInt8) (acc : List Int) (i : Nat) : Prop := ∀ c, okFrom 700 0 c = true → s = ctxt c → acc = c.take i
theorem JS_start (s : List UInt8) : JS s [] 0 := fun c _ _ => by simp
theorem JS_at {s : List UInt8} {c : List Int} {i : Nat} (hs : s = ctxt c) (hi : i + 1 < (wordsL s).length) : ∃ h : i < c.length, (wordsL s).getD i [] = Lib.itoa c[i] := by
  subst hs
  rw [wordsL_ctx] at hi ⊢
  have h : i < c.length := by simp at hi; omega
  refine ⟨h, ?_⟩
  rw [List.getD_eq_getElem?_getD, List.getElem?_append_left (by simpa using h)]
  simp [h]
theorem JS_step {s : List UInt8} {acc : List Int} {i : Nat} {n : Int} (h : JS s acc i) (hi : i + 1 < (wordsL s).length) (hn : NumIs ((wordsL s).getD i []) n true) : JS s (acc ++ [n]) (i + 1) := fun c hc hs => by
  obtain ⟨h1, h2⟩ := JS_at hs hi
  have hm := okFrom_mem c 700 0 hc (by omega) c[i] (List.getElem_mem _)
  have := (hn c[i] hm.1 hm.2.1 hm.2.2 h2).2
  rw [h c hc hs, this, List.take_succ_eq_append_getElem h1]
theorem JS_bad {s : List UInt8} {i : Nat} {n : Int} (hi : i + 1 < (wordsL s).length) (hn : NumIs ((wordsL s).getD i []) n false) : readV s = ([], false) := readV_no fun c hc hs => by
  obtain ⟨h1, h2⟩ := JS_at hs hi
  have hm := okFrom_mem c 700 0 hc (by omega) c[i] (List.getElem_mem _)
  exact absurd (hn c[i] hm.1 hm.2.1 hm.2.2 h2).1 (by simp)
theorem JS_end {s : List UInt8} {acc : List Int} {i : Nat} (h : JS s acc i) (hi : ¬ i + 1 < (wordsL s).length) : ∀ c, okFrom 700 0 c = true → s = ctxt c → acc = c := fun c hc hs => by
  rw [h c hc hs]
  rw [hs, wordsL_ctx] at hi
  simp at hi
  exact List.take_of_length_le (by omega)
theorem numIs_nil {s : List UInt8} {n : Int} {ok : Bool} (h : s = []) : NumIs s n ok := fun x _ _ _ e => absurd (h.symm.trans e).symm (itoa_ne x)
/-- behind the sign -/
theorem numIs_of {s l : List UInt8} {n : Int} {ok neg : Bool} (hs : s = if neg then 45 :: l else l) (hl : neg = false → l.head? ≠ some 45) (h : ∀ m : Nat, m ≠ 0 → m ≤ 700 → l = Lib.decDigits m → ok = true ∧ n = if neg then -(m : Int) else m) : NumIs s n ok := fun x h0 h1 h2 e => by
  cases neg
  · rw [if_neg (by simp)] at hs
    subst hs
    by_cases hx : x < 0
    · exact absurd (by rw [e, itoa_neg hx]; rfl) (hl rfl)
    · rw [itoa_pos hx] at e
      obtain ⟨a, b⟩ := h x.natAbs (by omega) (by omega) e
      exact ⟨a, by rw [b]; simp; omega⟩
  · rw [if_pos rfl] at hs
    subst hs
    by_cases hx : x < 0
    · rw [itoa_neg hx] at e
      obtain ⟨a, b⟩ := h x.natAbs (by omega) (by omega) (List.cons.inj e).2
      exact ⟨a, by rw [b]; simp; omega⟩
    · rw [itoa_pos hx] at e
      have := dec_digits x.natAbs 45 (by rw [← e]; simp)
      exact absurd this.1 (by decide)
end Go.Proofs.YtjobbokjebhjgaaDoor
