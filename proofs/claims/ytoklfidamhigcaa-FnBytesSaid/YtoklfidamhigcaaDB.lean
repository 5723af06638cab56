/- The types' table; the operations that touch no memory but read it. -/
import Derived.Test.YtoklfidamhigcaaDA
import Derived.Lib.MinMax
import Derived.Laws.StructEq
namespace Go.Proofs.Ytoklfidamhigcaa.D
open Go.RowKit

/-- Zero cells. -/
inductive Z where
  | zb | zi (k : IntKind) | zs | zp | zl | zm | zf | zn
  deriving DecidableEq
def Z.val : Z → Value
  | .zb => .bool false | .zi k => .int k 0 | .zs => .string ⟨#[]⟩ | .zp => .pointer none | .zl => .slice none 0 0 | .zm => .map none | .zf => .nilFunc | .zn => .nilIface
def Z.ok : Z → Value → Bool
  | .zb, .bool q => !q | .zi k, .int k' x => k == k' && x == 0 | .zs, .string s => s.data.isEmpty | .zp, .pointer none => true | .zl, .slice none 0 0 => true
  | .zm, .map none => true | .zf, .nilFunc => true | .zn, .nilIface => true | _, _ => false
theorem Z.ok_eq {z : Z} {v : Value} (h : z.ok v = true) : v = z.val := by
  unfold Z.ok at h; split at h <;> simp_all [Z.val]
  exact ByteArray.ext (by assumption)
def Z.cv : Z → CV
  | .zl => .nil | z => .dv (.sc z.val)
theorem Z.cr (V : View) (bs : Loc) (z : Z) : CR V bs z.cv z.val := by
  cases z <;> first | exact .nil | exact .dv (.sc _)

inductive TK where
  | bool | int (k : IntKind) | string | ptr (e : TypeId) | slice (e : TypeId) | array (n : Nat) (e : TypeId) | struct (fs : List (Nat × TypeId)) | tuple | other
structure TyI where
  kind : TK
  size : Nat
  bytes : Nat
  zero : List Z
  cmp : Bool := false

def TK.agg : TK → Bool | .array .. => true | .struct .. => true | _ => false

def zerosOk : List Z → List Value → Bool
  | [], [] => true
  | z :: zs, v :: vs => z.ok v && zerosOk zs vs
  | _, _ => false
theorem zerosOk_eq : ∀ {zs : List Z} {vs : List Value}, zerosOk zs vs = true → vs = zs.map Z.val
  | [], [], _ => rfl
  | z :: zs, v :: vs, h => by
    simp only [zerosOk, Bool.and_eq_true] at h
    simp [Z.ok_eq h.1, zerosOk_eq h.2]
  | [], _ :: _, h => by simp [zerosOk] at h
  | _ :: _, [], h => by simp [zerosOk] at h
theorem zeros_cr (V : View) (bs : Loc) : ∀ zs : List Z, CRs V bs (zs.map Z.cv) (zs.map Z.val)
  | [] => .nil
  | z :: zs => .cons (z.cr V bs) (zeros_cr V bs zs)

def TK.ok (P : Program) (k : TK) (d : TypeDesc) : Bool :=
  match k, d with
  | .bool, .bool => true
  | .int k, .int k' => k == k'
  | .string, .string => true
  | .ptr e, .pointer e' => e == e'
  | .slice e, .slice e' => e == e'
  | .array n e, .array n' e' => n == n' && e == e'
  | .struct fs, .struct fields => fs == fields.toList.map (fun f => (f.offset, f.type)) && fields.all (fun f => match P.info? f.type with | some i => i.size != 0 | none => false)
  | .tuple, .tuple _ => true
  | .other, .struct _ => false
  | .other, .array _ _ => false
  | .other, .slice _ => false
  | .other, .string => false
  | .other, _ => true
  | _, _ => false
def cmpOk (P : Program) (t : TypeId) : Bool := !P.eqGuardType P.depth t && !P.stoodInHeld t && (P.fieldsOf t).all fun f => f.name != "_"
def tyOk (P : Program) (t : TypeId) (i : TyI) : Bool :=
  match P.info? t, P.underlying t with
  | some info, some d => info.size == i.size && info.bytes == i.bytes && (i.zero.isEmpty || i.zero.length == i.size) && (match info.zero with | some z => zerosOk i.zero z.cells.toList && (match z with | .agg _ => i.kind.agg | .tuple _ => false | _ => !i.kind.agg) | none => i.zero.isEmpty) && i.kind.ok P d && (!i.cmp || cmpOk P t)
  | _, _ => false

structure TyFacts (P : Program) (t : TypeId) (i : TyI) : Prop where
  info : ∃ info, P.info? t = some info ∧ info.size = i.size ∧ info.bytes = i.bytes ∧ (i.zero ≠ [] → i.zero.length = i.size ∧ ∃ z, info.zero = some z ∧ z.cells.toList = i.zero.map Z.val ∧ (i.kind.agg = true → z = .agg (i.zero.map Z.val).toArray) ∧ (i.kind.agg = false → i.zero.map Z.val = [z]))
  desc : ∃ d, P.underlying t = some d ∧ i.kind.ok P d = true
  cmp : i.cmp = true → cmpOk P t = true
theorem tyOk_facts {P : Program} {t : TypeId} {i : TyI} (h : tyOk P t i = true) : TyFacts P t i := by
  unfold tyOk at h
  split at h
  · rename_i info d hi hd
    simp only [Bool.and_eq_true, beq_iff_eq] at h
    obtain ⟨⟨⟨⟨⟨h1, h2⟩, h5⟩, h3⟩, h4⟩, h6⟩ := h
    refine ⟨⟨info, hi, h1, h2, fun hz => ?_⟩, ⟨d, hd, h4⟩, fun hc => by simpa [hc] using h6⟩
    split at h3
    · rename_i z hzz
      simp only [Bool.and_eq_true] at h3
      have he := zerosOk_eq h3.1
      refine ⟨by simpa [hz] using h5, z, hzz, he, fun ha => ?_, fun ha => ?_⟩
      · have h4 := h3.2
        split at h4
        · simp only [Value.cells] at he; rw [← he]
        · simp at h4
        · simp [ha] at h4
      · have h4 := h3.2
        split at h4
        · simp [ha] at h4
        · simp at h4
        · rw [← he]; unfold Value.cells; split <;> simp_all
    · rename_i hzz
      simp at h3
      exact absurd h3 hz
  · simp at h

/-- A table of types that fits the program. -/
structure Tab (P : Program) where
  tb : TypeId → Option TyI
  mixed : P.follows .mixedOrders = true
  ok : ∀ t i, tb t = some i → TyFacts P t i

section
variable {P : Program} {V : View} {bs : Loc}

theorem add_eq (b o n : Nat) : (⟨b, o, none⟩ : Addr).add n = ⟨b, o + n, none⟩ := by
  unfold Addr.add; split <;> simp_all

theorem TyFacts.run_underlying {t : TypeId} {i : TyI} (h : TyFacts P t i) : ∃ d, i.kind.ok P d = true ∧ ∀ w, (underlying t).run P w = .ok d w := by
  obtain ⟨d, hd, hk⟩ := h.desc
  exact ⟨d, hk, fun w => Go.run_underlying hd w⟩
theorem TyFacts.run_sizeOf {t : TypeId} {i : TyI} (h : TyFacts P t i) (w : World) : (sizeOf t).run P w = .ok i.size w := by
  obtain ⟨info, hi, hs, _, _⟩ := h.info
  simp [sizeOf, typeInfo, hi, hs]
theorem TyFacts.run_zero {t : TypeId} {i : TyI} (h : TyFacts P t i) (hz : i.zero ≠ []) (w : World) : ∃ z, (zeroValue t).run P w = .ok z w ∧ z.cells.toList = i.zero.map Z.val ∧ (i.kind.agg = true → z = .agg (i.zero.map Z.val).toArray) ∧ (i.kind.agg = false → i.zero.map Z.val = [z]) := by
  obtain ⟨info, hi, _, _, hz'⟩ := h.info
  obtain ⟨_, z, h1, h2⟩ := hz' hz
  exact ⟨z, by simp [zeroValue, typeInfo, hi, h1], h2⟩
theorem TyFacts.zlen {t : TypeId} {i : TyI} (h : TyFacts P t i) (hz : i.zero ≠ []) : i.zero.length = i.size := by
  obtain ⟨info, _, _, _, hz'⟩ := h.info
  exact (hz' hz).1
theorem TyFacts.run_isAgg {t : TypeId} {i : TyI} (h : TyFacts P t i) (w : World) : (isAgg t).run P w = .ok i.kind.agg w := by
  obtain ⟨d, hk, hu⟩ := h.run_underlying
  simp only [isAgg, Sem.run_bind, hu, Result.andThen_ok]
  cases hkind : i.kind <;> rw [hkind] at hk <;> cases d <;> simp_all [TK.ok, TK.agg]
end
end Go.Proofs.Ytoklfidamhigcaa.D
