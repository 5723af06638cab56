/- The operations that touch no memory, or only read it. -/
import Derived.Test.YtoklfidamhigcaaDB
namespace Go.Proofs.Ytoklfidamhigcaa.D
open Go.RowKit

def ofCell : Value → CV
  | .slice none 0 0 => .nil
  | v => if v.oneCell' = true then .dv (.sc v) else .dead
def ofVal : Value → SV
  | .agg cs => .agg (cs.toList.map ofCell)
  | v => .one (ofCell v)
def St.ev (S : St) : Operand → SV
  | .tmp t => S.T t
  | .const v => ofVal v
  | .global _ => .one .dead
  | .func f => .one (.dv (.sc (.func (.func f) #[] #[])))
def upd {β : Type} (f : Nat → β) (i : Nat) (x : β) : Nat → β := fun j => if j = i then x else f j
@[simp] theorem upd_same {β : Type} (f : Nat → β) (i : Nat) (x : β) : upd f i x i = x := by simp [upd]
theorem upd_ne {β : Type} (f : Nat → β) (i j : Nat) (x : β) (h : j ≠ i) : upd f i x j = f j := by simp [upd, h]
theorem upd_apply {β : Type} (f : Nat → β) (i j : Nat) (x : β) : upd f i x j = if j = i then x else f j := rfl
def St.put (S : St) (d : Option Tmp) (v : SV) : St := match d with | some t => { S with T := upd S.T t v } | none => S

theorem ofCell_cr (V : View) (bs : Loc) (v : Value) : CR V bs (ofCell v) v := by
  unfold ofCell; split
  · exact .nil
  · split
    · rename_i h; exact .dv (.sc v h)
    · exact .dead v
theorem ofCells_cr (V : View) (bs : Loc) : ∀ vs : List Value, CRs V bs (vs.map ofCell) vs
  | [] => .nil
  | v :: vs => .cons (ofCell_cr V bs v) (ofCells_cr V bs vs)
theorem ofVal_vr (V : View) (bs : Loc) (v : Value) : VR V bs (ofVal v) v := by
  unfold ofVal; split
  · rename_i cs; have := VR.agg (ofCells_cr V bs cs.toList); simpa using this
  · exact .one (ofCell_cr V bs v)

theorem ev_ok {V : View} {bs : Loc} {S : St} {a : Act} (h : ∀ t, VR V bs (S.T t) (a.tmps.getD t undef)) (x : Operand) : VR V bs (S.ev x) (a.eval x) := by
  cases x with
  | tmp t => exact h t
  | const v => exact ofVal_vr V bs v
  | global g => exact .one (.dead _)
  | func f => exact .one (.dv (.sc _))

theorem Sat1.put {w0 : World} {M : Rows0} {N : Nat} {V : View} {bs : Loc} {S : St} {a : Act} {w : World} (h : Sat1 w0 M N V bs S a w) {d : Option Tmp} (hd : ∀ t, d = some t → t < N) {sv : SV} {v : Value}
    (hv : VR V bs sv v) : Sat1 w0 M N V bs (S.put d sv) (a.put d v) w := by
  cases d with
  | none => exact h
  | some t =>
    refine { h with tmps := fun u => ?_, defers := h.defers, nt := by simpa [Act.put] using h.nt, dom := h.dom, rows := h.rows }
    have ht : t < a.tmps.size := by rw [h.nt]; exact hd t rfl
    show VR V bs (upd S.T t sv u) _
    unfold upd
    split
    · rename_i e; subst e; simpa [Act.put, ht] using hv
    · rename_i e
      have := h.tmps u
      simpa [Act.put, Array.getElem?_setIfInBounds, Ne.symm e] using this

/-- Two one-cell values with an operator. -/
def binD (tb : TypeId → Option TyI) (op : BinOp) (t : TypeId) (u v : Value) (K : Value → Prop) : Prop :=
  match op, u, v with
  | .shl, .int k a, .int _ b => 0 ≤ b ∧ K (.int k (k.wrap (a * 2 ^ (min b.toNat k.bits))))
  | .shr, .int k a, .int _ b => 0 ≤ b ∧ K (.int k (a.fdiv (2 ^ (min b.toNat k.bits))))
  | .add, .int k a, .int k' b => k = k' ∧ K (.int k (k.wrap (a + b)))
  | .sub, .int k a, .int k' b => k = k' ∧ K (.int k (k.wrap (a - b)))
  | .mul, .int k a, .int k' b => k = k' ∧ K (.int k (k.wrap (a * b)))
  | .quo, .int k a, .int k' b => k = k' ∧ b ≠ 0 ∧ K (.int k (k.wrap (a.tdiv b)))
  | .rem, .int k a, .int k' b => k = k' ∧ b ≠ 0 ∧ K (.int k (a.tmod b))
  | .and, .int k a, .int k' b => k = k' ∧ K (.int k (bits .and k a b))
  | .or, .int k a, .int k' b => k = k' ∧ K (.int k (bits .or k a b))
  | .xor, .int k a, .int k' b => k = k' ∧ K (.int k (bits .xor k a b))
  | .andNot, .int k a, .int k' b => k = k' ∧ K (.int k (bits .andNot k a b))
  | .eql, .int k a, .int k' b => k = k' ∧ K (.bool (a == b))
  | .neq, .int k a, .int k' b => k = k' ∧ K (.bool (a != b))
  | .lss, .int k a, .int k' b => k = k' ∧ K (.bool (decide (a < b)))
  | .leq, .int k a, .int k' b => k = k' ∧ K (.bool (decide (a ≤ b)))
  | .gtr, .int k a, .int k' b => k = k' ∧ K (.bool (decide (a > b)))
  | .geq, .int k a, .int k' b => k = k' ∧ K (.bool (decide (a ≥ b)))
  | .add, .string a, .string b => ((a.size + b.size : Nat) : Int) ≤ 9223372036854775807 ∧ K (.string (a ++ b))
  | .eql, .string a, .string b => K (.bool (a.toList == b.toList))
  | .neq, .string a, .string b => K (.bool !(a.toList == b.toList))
  | .lss, .string a, .string b => K (.bool (Op.bytesLess a.toList b.toList))
  | .leq, .string a, .string b => K (.bool (Op.bytesLess a.toList b.toList || a.toList == b.toList))
  | .gtr, .string a, .string b => K (.bool !(Op.bytesLess a.toList b.toList || a.toList == b.toList))
  | .geq, .string a, .string b => K (.bool !(Op.bytesLess a.toList b.toList))
  | .eql, .bool a, .bool b => (match tb t with | some { kind := .bool, .. } => K (.bool (a == b)) | _ => False)
  | .neq, .bool a, .bool b => (match tb t with | some { kind := .bool, .. } => K (.bool !(a == b)) | _ => False)
  | _, _, _ => False

theorem TyFacts.bool {P : Program} {t : TypeId} {i : TyI} (h : TyFacts P t i) (hk : i.kind = .bool) : P.underlying t = some .bool := by
  obtain ⟨d, hd, h2⟩ := h.desc
  rw [hk] at h2
  cases d <;> simp [TK.ok] at h2
  exact hd

theorem equal_bool {P : Program} {t : TypeId} (hu : P.underlying t = some .bool) (a b : Bool) (w : World) : (Op.equal t (.bool a) (.bool b)).run P w = .ok (a == b) w := by
  have h : Op.equal t (.bool a) (.bool b) = Op.equalIn (9999 + 1) t (.bool a) (.bool b) := rfl
  rw [h]; unfold Op.equalIn
  simp [run_underlying hu]
theorem strAdd {P : Program} (a b : ByteArray) (h : ((a.size + b.size : Nat) : Int) ≤ 9223372036854775807) (w : World) : (Op.stringOp .add a b).run P w = .ok (.string (a ++ b)) w := by
  have : ¬ (((a.size + b.size : Nat) : Int) > IntKind.i64.max) := by
    have : IntKind.i64.max = 9223372036854775807 := by decide
    omega
  unfold Op.stringOp
  simp only [this, if_false]
  rfl

theorem binD_run {P : Program} (tb : Tab P) {op : BinOp} {t : TypeId} {u v : Value} {K : Value → Prop} (h : binD tb.tb op t u v K) (w : World) (x y : Operand) :
    ∃ r, K r ∧ r.oneCell' = true ∧ (do eqGuard op t x y u v; binOp op t u v : Sem Value).run P w = .ok r w := by
  unfold binD at h
  split at h <;> first
    | (obtain ⟨h0, h⟩ := h; refine ⟨_, h, rfl, ?_⟩; simp [eqGuard, binOp, Op.shift, Int.not_lt.2 h0]; done)
    | (obtain ⟨rfl, h⟩ := h; refine ⟨_, h, rfl, ?_⟩; simp [eqGuard, binOp, Op.intArith, Op.intCmp]; done)
    | (obtain ⟨rfl, h0, h⟩ := h; refine ⟨_, h, rfl, ?_⟩; simp [eqGuard, binOp, Op.intDiv, h0]; done)
    | (obtain ⟨rfl, h⟩ := h; refine ⟨_, h, rfl, ?_⟩; simp [eqGuard, binOp, Op.intBits, bits]; done)
    | (obtain ⟨h0, h⟩ := h; refine ⟨_, h, rfl, ?_⟩; simp [eqGuard, binOp, strAdd _ _ h0]; done)
    | (refine ⟨_, h, rfl, ?_⟩; simp [eqGuard, binOp, Op.stringOp]; done)
    | (split at h
       · rename_i heq
         refine ⟨_, h, rfl, ?_⟩
         have hu := (tb.ok _ _ heq).bool rfl
         simp [eqGuard, binOp, equal_bool hu]
       · exact h.elim)
    | exact h.elim
end Go.Proofs.Ytoklfidamhigcaa.D
