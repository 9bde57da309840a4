/- sortOf of the program; the sort of a term as the reference finds it. The conditions stand in each statement. -/
import Derived.Test.YtfkanemjedndgaaGreatDoorKu
import Derived.Test.YtfkanemjedndgaaGreatDoorKv
import Derived.Test.YtfkanemjedndgaaGreatDoorKw
namespace Go.Proofs.YtfkanemjedndgaaGreatDoor
open Go.RowKit

def kVal (op : Int) : Value := match (kDat 11).atKey (.int .i64 op) (.held .nilIface) with | .held v => v | _ => .nilIface
theorem kVal_holds {op : Int} (h : known op = true) : Holds op (kVal op) := by
  obtain ⟨_, u, h2, h3⟩ := kind_at op h
  unfold kVal; rw [h2]; exact h3
theorem look_kind2 {w : World} {b : Nat} (h : KMap w b) (op : Int) (hop : (Lit.int .i64 op).wf = true) :
    (Instr.lookup 48 (.map (some b)) (.int .i64 op) true).run Tryz.prog w = .ok (.tuple #[kVal op, .bool (known op)]) w := by
  obtain ⟨v, ps, hrun, hv⟩ := World.ownsMap.look_ok h keyed Tryz.underlying48 (z := .nilIface) (zd := .held .nilIface) (zp := []) (Tryz.zeroValue63 w) rfl (keyI op hop)
  have hkv : kVal op = v := by
    simp only [heldR, Option.some.injEq, Prod.mk.injEq] at hv
    unfold kVal; rw [← hv.1]
  have hh : Maps.has (kDat 11) (.int .i64 op) = known op := by
    cases hk : known op with
    | false => exact kind_none op hk
    | true => exact (kind_at op hk).1
  rw [hrun, hkv, hh]
theorem sortOf_step (ds : List Dc) (hdw : DW ds) (d : Nat) (IH : ∀ d', d = d' + 1 → SortC ds d') : SortC ds d := by
  intro b v op p q nm s ks w hM hD h hT hop
  have L : ∀ w', KMap w' b → (Instr.lookup 48 (.map (some b)) (.int .i64 op) true).run Tryz.prog w' = .ok (.tuple #[kVal op, .bool (known op)]) w' := fun w' h' => look_kind2 h' op hop
  cases hk : known op with
  | false => rw [hk] at L; exact sortOf_none ds d b v op p q nm s ks w hM hk _ L
  | true =>
    rw [hk] at L
    rcases kVal_holds hk with ⟨st, hc, e⟩ | ⟨st, hc, e⟩ | ⟨st, hc, e⟩ | ⟨st, hc, e⟩ | ⟨st, hc, e⟩ | ⟨st, hc, e⟩ | ⟨st, hc, e⟩ | ⟨st, hc, e⟩ | ⟨st, n, f, hc, e⟩
    all_goals rw [e] at L
    · exact sortOf_un ds hdw d IH b v op p q nm s ks w hM hD h hT st hc L
    · exact sortOf_bin ds hdw d IH b v op p q nm s ks w hM hD h hT st hc L
    · exact sortOf_cat ds hdw d IH b v op p q nm s ks w hM hD h hT st hc L
    · exact sortOf_cmp ds hdw d IH b v op p q nm s ks w hM hD h hT st hc L
    · exact sortOf_vec ds hdw d IH b v op p q nm s ks w hM hD h hT st hc L
    · exact sortOf_name ds hdw d IH b v op p q nm s ks w hM hD h hT st hc L
    · exact sortOf_cut ds hdw d IH b v op p q nm s ks w hM hD h hT st hc L
    · exact sortOf_if ds hdw d IH b v op p q nm s ks w hM hD h hT st hc L
    · exact sortOf_bool ds hdw d IH b v op p q nm s ks w hM hD h hT st n f hc L
theorem sortOf_any (ds : List Dc) (hdw : DW ds) : ∀ d, SortC ds d
  | 0 => sortOf_step ds hdw 0 (fun _ e => by cases e)
  | d + 1 => sortOf_step ds hdw (d + 1) (fun d' e => by cases e; exact sortOf_any ds hdw d)
end Go.Proofs.YtfkanemjedndgaaGreatDoor
