/- Values as they read, own rows, and what a state of a function's run says of a world. -/
import Derived.Calls
import Derived.Orders
import Derived.Laws.Sem
import Derived.Laws.Cells
import Derived.Laws.World
import Derived.Laws.Entries
import Derived.Below
import Derived.Lib.MinMax
import Derived.Laws.StructEq
set_option linter.unusedVariables false
set_option linter.unusedSimpArgs false
namespace Go.Proofs.Ytpdjehnlejjfmaa.D
open Go.RowKit

inductive DV where
 | sc (v : Value)
 | sl (es : List (List DV))
 | ow (k off len : Nat) (es : List (List DV))
 | no
instance : Inhabited DV := ⟨.sc default⟩

inductive Nm where
 | v (p : Nat)
 | h (p i j : Nat)
 deriving DecidableEq
instance : Inhabited Nm := ⟨.v 0⟩
def TKN : Nat := 4611686018427387904
def rt (p : Nat) : Nat := if p < TKN then p else p / TKN - 1
def Nm.top : Nm → Nat | .v p => p | .h p _ _ => p
def Nm.root (n : Nm) : Nat := rt n.top

abbrev View := Addr → Option Value

inductive Rd (V : View) : Value → DV → Prop
 | sc (v : Value) (h : v.oneCell' = true := by rfl) : Rd V v (.sc v)
 | nil (a : Option Addr) (c : Nat) : Rd V (.slice a 0 c) (.sl [])
 | sl (b o k cap : Nat) (es : List (List DV)) (f : Nat → Nat → Value) (hc : es.length ≤ cap)
   (hk : ∀ i (h : i < es.length), es[i].length = k)
   (hV : ∀ i j, i < es.length → j < k → V ⟨b, o + i * k + j, none⟩ = some (f i j))
   (hr : ∀ i j (hi : i < es.length) (hj : j < es[i].length), Rd V (f i j) es[i][j]) :
   Rd V (.slice (some ⟨b, o, none⟩) es.length cap) (.sl es)

def View.le (V V' : View) : Prop := ∀ x v, V x = some v → V' x = some v
theorem View.le.refl (V : View) : V.le V := fun _ _ h => h
theorem View.le.trans {A B C : View} (h : A.le B) (k : B.le C) : A.le C := fun x v e => k x v (h x v e)

theorem Rd.mono {V V' : View} (hle : V.le V') {v : Value} {d : DV} (h : Rd V v d) : Rd V' v d := by
 induction h with
 | sc v h => exact .sc v h
 | nil a c => exact .nil a c
 | sl b o k cap es f hc hk hV _ ih => exact .sl b o k cap es f hc hk (fun i j hi hj => hle _ _ (hV i j hi hj)) ih

theorem Rd.inv {V : View} {v : Value} {es : List (List DV)} (h : Rd V v (.sl es)) : ∃ ad cap, v = .slice ad es.length cap ∧ es.length ≤ cap ∧
  (es ≠ [] → ∃ (b o k : Nat) (f : Nat → Nat → Value), ad = some ⟨b, o, none⟩ ∧ (∀ i (h : i < es.length), es[i].length = k) ∧ (∀ i j, i < es.length → j < k → V ⟨b, o + i * k + j, none⟩ = some (f i j)) ∧
   ∀ i j (hi : i < es.length) (hj : j < es[i].length), Rd V (f i j) es[i][j]) := by
 cases h with
 | nil a c => exact ⟨a, c, rfl, Nat.zero_le _, fun h => absurd rfl h⟩
 | sl b o k cap _ f hc hk hV hr => exact ⟨_, cap, rfl, hc, fun _ => ⟨b, o, k, f, rfl, hk, hV, hr⟩⟩
theorem Rd.inv_k {V : View} {v : Value} {es : List (List DV)} (h : Rd V v (.sl es)) {k : Nat} (hk : ∀ e ∈ es, e.length = k) : ∃ ad cap, v = .slice ad es.length cap ∧ es.length ≤ cap ∧
  (es ≠ [] → ∃ (b o : Nat) (f : Nat → Nat → Value), ad = some ⟨b, o, none⟩ ∧ (∀ i j, i < es.length → j < k → V ⟨b, o + i * k + j, none⟩ = some (f i j)) ∧
   ∀ i j (hi : i < es.length) (hj : j < es[i].length), Rd V (f i j) es[i][j]) := by
 obtain ⟨ad, cap, h1, h2, h3⟩ := h.inv
 refine ⟨ad, cap, h1, h2, fun hne => ?_⟩
 obtain ⟨b, o, k', f, h4, h5, h6, h7⟩ := h3 hne
 have h0 : 0 < es.length := by cases es with | nil => exact absurd rfl hne | cons _ _ => simp
 have : k' = k := by rw [← h5 0 h0]; exact hk _ (List.getElem_mem _)
 subst this
 exact ⟨b, o, f, h4, h6, h7⟩

inductive CV where
 | dead
 | nil
 | dv (d : DV)
 | os (p : Nm) (k off len : Nat)
 | ptr (p off : Nat)
 | ep (p : Nm) (k i f : Nat)
 | dp (cells : List DV) (f : Nat)
 | sb (p o k n : Nat)
instance : Inhabited CV := ⟨.dead⟩

inductive SV where
 | one (c : CV)
 | agg (cs : List CV)
 | tup (vs : List (Bool × List CV))
 | arr (ds : List DV)
instance : Inhabited SV := ⟨.one .dead⟩

inductive Row where
 | box (cs : List CV)
 | own (k : Nat) (es : List (List DV))

abbrev Loc := Nm → Option (Nat × Nat)

inductive CR (V : View) (bs : Loc) : CV → Value → Prop
 | dead (v : Value) : CR V bs .dead v
 | nil : CR V bs .nil (.slice none 0 0)
 | dv {d : DV} {v : Value} (h : Rd V v d) : CR V bs (.dv d) v
 | os {p : Nm} {k off len b n cap : Nat} (h : bs p = some (b, n)) (hl : len ≤ cap) (hc : (off + cap) * k ≤ n) : CR V bs (.os p k off len) (.slice (some ⟨b, off * k, none⟩) len cap)
 | oszero {p : Nm} {k off : Nat} {a : Option Addr} : CR V bs (.os p k off 0) (.slice a 0 0)
 | ptr {p off b n : Nat} (h : bs (.v p) = some (b, n)) : CR V bs (.ptr p off) (.pointer (some ⟨b, off, none⟩))
 | ep {p : Nm} {k i f b n : Nat} (h : bs p = some (b, n)) : CR V bs (.ep p k i f) (.pointer (some ⟨b, i * k + f, none⟩))
 | dp {cells : List DV} {f b o : Nat} {g : Nat → Value} (hV : ∀ j, j < cells.length → V ⟨b, o + j, none⟩ = some (g j)) (hr : ∀ j (h : j < cells.length), Rd V (g j) cells[j]) :
   CR V bs (.dp cells f) (.pointer (some ⟨b, o + f, none⟩))
 | sb {p o k n b m : Nat} (h : bs (.v p) = some (b, m)) : CR V bs (.sb p o k n) (.slice (some ⟨b, o, none⟩) n n)

theorem CR.mono {V V' : View} {bs bs' : Loc} (hV : V.le V') (hb : ∀ p x, bs p = some x → bs' p = some x) {c : CV} {v : Value} (h : CR V bs c v) : CR V' bs' c v := by
 cases h with
 | dead => exact .dead _
 | nil => exact .nil
 | dv h => exact .dv (h.mono hV)
 | os h hl hc => exact .os (hb _ _ h) hl hc
 | oszero => exact .oszero
 | ptr h => exact .ptr (hb _ _ h)
 | ep h => exact .ep (hb _ _ h)
 | dp h1 h2 => exact .dp (fun j hj => hV _ _ (h1 j hj)) (fun j hj => (h2 j hj).mono hV)
 | sb h => exact .sb (hb _ _ h)

inductive CRs (V : View) (bs : Loc) : List CV → List Value → Prop
 | nil : CRs V bs [] []
 | cons {c : CV} {v : Value} {cs : List CV} {vs : List Value} (h : CR V bs c v) (t : CRs V bs cs vs) : CRs V bs (c :: cs) (v :: vs)

theorem CRs.mono {V V' : View} {bs bs' : Loc} (hV : V.le V') (hb : ∀ p x, bs p = some x → bs' p = some x) {c : List CV} {v : List Value} (h : CRs V bs c v) : CRs V' bs' c v := by
 induction h with
 | nil => exact .nil
 | cons h _ ih => exact .cons (h.mono hV hb) ih

theorem CRs.length {V : View} {bs : Loc} {c : List CV} {v : List Value} (h : CRs V bs c v) : c.length = v.length := by
 induction h with
 | nil => rfl
 | cons _ _ ih => simp [ih]

theorem CRs.get {V : View} {bs : Loc} {c : List CV} {v : List Value} (h : CRs V bs c v) : ∀ (i : Nat) (x : CV), c[i]? = some x → ∃ u, v[i]? = some u ∧ CR V bs x u := by
 induction h with
 | nil => intro i x h; simp at h
 | cons h _ ih =>
  intro i x hx
  cases i with
  | zero => simp at hx; subst hx; exact ⟨_, rfl, h⟩
  | succ i => simp at hx; obtain ⟨u, h1, h2⟩ := ih i x hx; exact ⟨u, by simpa using h1, h2⟩

theorem CRs.append {V : View} {bs : Loc} {c c' : List CV} {v v' : List Value} (h : CRs V bs c v) (h' : CRs V bs c' v') : CRs V bs (c ++ c') (v ++ v') := by
 induction h with
 | nil => exact h'
 | cons h _ ih => exact .cons h ih

theorem CRs.take {V : View} {bs : Loc} {c : List CV} {v : List Value} (h : CRs V bs c v) : ∀ n, CRs V bs (c.take n) (v.take n) := by
 induction h with
 | nil => intro n; simp; exact .nil
 |cons h _ ih => intro n; cases n with
  | zero => simp; exact .nil
  | succ n => simp; exact .cons h (ih n)

theorem CRs.drop {V : View} {bs : Loc} {c : List CV} {v : List Value} (h : CRs V bs c v) : ∀ n, CRs V bs (c.drop n) (v.drop n) := by
 induction h with
 | nil => intro n; simp; exact .nil
 |cons h t ih => intro n; cases n with
  | zero => simp; exact .cons h t
  | succ n => simp; exact ih n

theorem CRs.of_get {V : View} {bs : Loc} : ∀ {c : List CV} {v : List Value}, c.length = v.length → (∀ (i : Nat) (x : CV) (u : Value), c[i]? = some x → v[i]? = some u → CR V bs x u) → CRs V bs c v
 | [], [], _, _ => .nil
 | _ :: _, _ :: _, hl, h => .cons (h 0 _ _ rfl rfl) (CRs.of_get (by simpa using hl) fun i x u h1 h2 => h (i + 1) x u (by simpa using h1) (by simpa using h2))

theorem CRs.plain {V V' : View} {bs bs' : Loc} (hV : V.le V') : ∀ {ds : List DV} {vs : List Value}, CRs V bs (ds.map .dv) vs → CRs V' bs' (ds.map .dv) vs
 | [], _, h => by cases h; exact .nil
 | d :: ds, _, h => by cases h with | cons h t => cases h with | dv h => exact .cons (.dv (h.mono hV)) (CRs.plain hV t)
inductive VR (V : View) (bs : Loc) : SV → Value → Prop
 | one {c : CV} {v : Value} (h : CR V bs c v) : VR V bs (.one c) v
 | agg {cs : List CV} {vs : List Value} (h : CRs V bs cs vs) : VR V bs (.agg cs) (.agg vs.toArray)
 | arr {ds : List DV} {vs : List Value} (h : CRs V bs (ds.map .dv) vs) : VR V bs (.arr ds) (.agg vs.toArray)
 | tup {ps : List (Bool × List CV)} {vs : List Value} (hl : ps.length = vs.length)
   (h : ∀ (i : Nat) b cs u, ps[i]? = some (b, cs) → vs[i]? = some u → (b = true ∧ ∃ us, u = .agg us.toArray ∧ CRs V bs cs us) ∨ (b = false ∧ ∃ c, cs = [c] ∧ CR V bs c u)) :
   VR V bs (.tup ps) (.tuple vs.toArray)

theorem VR.mono {V V' : View} {bs bs' : Loc} (hV : V.le V') (hb : ∀ p x, bs p = some x → bs' p = some x) {c : SV} {v : Value} (h : VR V bs c v) : VR V' bs' c v := by
 cases h with
 | one h => exact .one (h.mono hV hb)
 | agg h => exact .agg (h.mono hV hb)
 | arr h => exact .arr (h.mono hV hb)
 | tup hl h => exact .tup hl fun i b cs u h1 h2 => (h i b cs u h1 h2).imp (fun ⟨a, us, e, r⟩ => ⟨a, us, e, r.mono hV hb⟩) (fun ⟨a, c, e, r⟩ => ⟨a, c, e, r.mono hV hb⟩)

structure Rows0 where
 n : Nat
 f : Loc
def Rows0.none : Rows0 := ⟨0, fun _ => Option.none⟩
def Rows0.has (M : Rows0) (b : Nat) : Prop := ∃ nm n, M.f nm = some (b, n)
theorem has_of {M : Rows0} {p : Nm} {b n : Nat} (h : M.f p = some (b, n)) : M.has b := ⟨_, _, h⟩
structure Keep (M : Rows0) (w w' : World) : Prop where
 os : w'.os = w.os
 tape : w'.tape = w.tape
 output : w'.output = w.output
 size : w.heap.size ≤ w'.heap.size
 block : ∀ k, k < w.heap.size → ¬ M.has k → w'.heap[k]? = w.heap[k]?

theorem Keep.refl (M : Rows0) (w : World) : Keep M w w := ⟨rfl, rfl, rfl, Nat.le_refl _, fun _ _ _ => rfl⟩
theorem Keep.trans {M : Rows0} {a b c : World} (h : Keep M a b) (k : Keep M b c) : Keep M a c :=
 ⟨k.os.trans h.os, k.tape.trans h.tape, k.output.trans h.output, Nat.le_trans h.size k.size, fun i hi hm => (k.block i (Nat.lt_of_lt_of_le hi h.size) hm).trans (h.block i hi hm)⟩
theorem Keep.below {w w' : World} (h : Keep Rows0.none w w') : Below w.heap.size w w' := ⟨h.os, h.tape, h.output, h.size, fun k hk => h.block k hk (by rintro ⟨_, _, h⟩; simp [Rows0.none] at h)⟩

def InSat (V : View) (w : World) (b n k : Nat) (es : List (List DV)) : Prop :=
 es.length * k ≤ n ∧ (∀ j, j < n → (w.cell? ⟨b, j, none⟩).isSome ∧ w.frozen? ⟨b, j, none⟩ = false) ∧ (∀ i (h : i < es.length), es[i].length = k) ∧
  ∀ i j (hi : i < es.length) (hj : j < es[i].length), ∃ v, w.cell? ⟨b, i * k + j, none⟩ = some v ∧ Rd V v es[i][j]
inductive CellR (V : View) (bs : Loc) (w : World) (nm : Nm) : Value → DV → Prop
 | rd {v : Value} {d : DV} (h : Rd V v d) : CellR V bs w nm v d
 | no (v : Value) (h : v.oneCell' = true) : CellR V bs w nm v .no
 | ow {k off len b n cap : Nat} {es : List (List DV)} (hb : bs nm = some (b, n)) (ho : off + len ≤ es.length) (hl : len ≤ cap) (hc : (off + cap) * k ≤ n) (h : InSat V w b n k es) :
   CellR V bs w nm (.slice (some ⟨b, off * k, none⟩) len cap) (.ow k off len es)
 | ownil (a : Option Addr) (k : Nat) (h : bs nm = none) : CellR V bs w nm (.slice a 0 0) (.ow k 0 0 [])
def RowSat (V : View) (bs : Loc) (w : World) (p b n : Nat) : Row → Prop
 | .box cs => n = cs.length ∧ (∀ j, j < n → w.frozen? ⟨b, j, none⟩ = false) ∧ (∀ i j, bs (.h p i j) = none) ∧ ∃ vs, CRs V bs cs vs ∧ ∀ j v, vs[j]? = some v → w.cell? ⟨b, j, none⟩ = some v
 | .own k es => es.length * k ≤ n ∧ (∀ j, j < n → (w.cell? ⟨b, j, none⟩).isSome ∧ w.frozen? ⟨b, j, none⟩ = false) ∧
   (∀ i (h : i < es.length), es[i].length = k) ∧
   ∀ i j (hi : i < es.length) (hj : j < es[i].length), ∃ v, w.cell? ⟨b, i * k + j, none⟩ = some v ∧ CellR V bs w (.h p i j) v es[i][j]

structure St where
 T : Nat → SV
 L : Nat → Option Row
 mv : List Nat := []

structure Sat1 (w0 : World) (M : Rows0) (N : Nat) (V : View) (bs : Loc) (S : St) (a : Act) (w : World) : Prop where
 keep : Keep M w0 w
 view : ∀ x v, V x = some v → w.cell? x = some v
 apart : ∀ x v p b n, V x = some v → bs p = some (b, n) → x.block ≠ b
 inj : ∀ p q b n n', bs p = some (b, n) → bs q = some (b, n') → p = q
 fresh : ∀ p b n, bs p = some (b, n) → (w0.heap.size ≤ b ∨ ∃ q m, M.f q = some (b, m) ∧ q.root = p.root) ∧ b < w.heap.size
 par : ∀ p r, S.L p = some r → p < M.n → p ∉ S.mv → M.f (.v p) = bs (.v p)
 ml : M.n ≤ 1000 ∧ ∀ q x, M.f q = some x → q.top < M.n
 dom : ∀ p, S.L p = none → bs (.v p) = none ∧ ∀ i j, bs (.h p i j) = none
 rows : ∀ p r, S.L p = some r → (∃ b n, bs (.v p) = some (b, n) ∧ RowSat V bs w p b n r) ∨ (bs (.v p) = none ∧ ∃ k, r = .own k [])
 tmps : ∀ t, VR V bs (S.T t) (a.tmps.getD t undef)
 defers : a.defers = []
 nt : a.tmps.size = N

def Sat (w0 : World) (M : Rows0) (N : Nat) (V0 : View) (S : St) (a : Act) (w : World) : Prop := ∃ V bs, V0.le V ∧ (∀ x v, V x = some v → V0 x = some v ∨ w0.heap.size ≤ x.block) ∧ Sat1 w0 M N V bs S a w
end Go.Proofs.Ytpdjehnlejjfmaa.D
/- The types' table; the operations that touch no memory but read it. -/
namespace Go.Proofs.Ytpdjehnlejjfmaa.D
open Go.RowKit

inductive Z where
 | zb | zi (k : IntKind) | zs | zp | zl | zm | zf | zn
 deriving DecidableEq
def Z.val : Z → Value
 | .zb => .bool false | .zi k => .int k 0 | .zs => .string ⟨#[]⟩ | .zp => .pointer none | .zl => .slice none 0 0 | .zm => .map none | .zf => .nilFunc | .zn => .nilIface
def Z.ok : Z → Value → Bool
 | .zb, .bool q => !q | .zi k, .int k' x => k == k' && x == 0 | .zs, .string s => s.data.isEmpty | .zp, .pointer none => true | .zl, .slice none 0 0 => true
 | .zm, .map none => true | .zf, .nilFunc => true | .zn, .nilIface => true | _, _ => false
theorem Z.ok_eq {z : Z} {v : Value} (h : z.ok v = true) : v = z.val := by
 unfold Z.ok at h; split at h <;> simp_all [Z.val]
 exact ByteArray.ext (by assumption)
def Z.cv : Z → CV
 | .zl => .nil | z => .dv (.sc z.val)
theorem Z.cr (V : View) (bs : Loc) (z : Z) : CR V bs z.cv z.val := by
 cases z <;> first | exact .nil | exact .dv (.sc _)

inductive TK where
 | bool | int (k : IntKind) | string | ptr (e : TypeId) | slice (e : TypeId) | array (n : Nat) (e : TypeId) | struct (fs : List (Nat × TypeId)) | tuple | other
structure TyI where
 kind : TK
 size : Nat
 bytes : Nat
 zero : List Z
 cmp : Bool := false

def TK.agg : TK → Bool | .array .. => true | .struct .. => true | _ => false

def zerosOk : List Z → List Value → Bool
 | [], [] => true
 | z :: zs, v :: vs => z.ok v && zerosOk zs vs
 | _, _ => false
theorem zerosOk_eq : ∀ {zs : List Z} {vs : List Value}, zerosOk zs vs = true → vs = zs.map Z.val
 | [], [], _ => rfl
 |z :: zs, v :: vs, h => by
  simp only [zerosOk, Bool.and_eq_true] at h
  simp [Z.ok_eq h.1, zerosOk_eq h.2]
 | [], _ :: _, h => by simp [zerosOk] at h
 | _ :: _, [], h => by simp [zerosOk] at h
theorem zeros_cr (V : View) (bs : Loc) : ∀ zs : List Z, CRs V bs (zs.map Z.cv) (zs.map Z.val)
 | [] => .nil
 | z :: zs => .cons (z.cr V bs) (zeros_cr V bs zs)

def TK.ok (P : Program) (k : TK) (d : TypeDesc) : Bool :=
 match k, d with
 | .bool, .bool => true
 | .int k, .int k' => k == k'
 | .string, .string => true
 | .ptr e, .pointer e' => e == e'
 | .slice e, .slice e' => e == e'
 | .array n e, .array n' e' => n == n' && e == e'
 | .struct fs, .struct fields => fs == fields.toList.map (fun f => (f.offset, f.type)) && fields.all (fun f => match P.info? f.type with | some i => i.size != 0 | none => false)
 | .tuple, .tuple _ => true
 | .other, .struct _ => false
 | .other, .array _ _ => false
 | .other, .slice _ => false
 | .other, .string => false
 | .other, _ => true
 | _, _ => false
def cmpOk (P : Program) (t : TypeId) : Bool := !P.eqGuardType P.depth t && !P.stoodInHeld t && (P.fieldsOf t).all fun f => f.name != "_"
def tyOk (P : Program) (t : TypeId) (i : TyI) : Bool :=
 match P.info? t, P.underlying t with
 | some info, some d => info.size == i.size && info.bytes == i.bytes && (i.zero.isEmpty || i.zero.length == i.size) && (match info.zero with | some z => zerosOk i.zero z.cells.toList && (match z with | .agg _ => i.kind.agg | .tuple _ => false | _ => !i.kind.agg) | none => i.zero.isEmpty) && i.kind.ok P d && (!i.cmp || cmpOk P t)
 | _, _ => false

structure TyFacts (P : Program) (t : TypeId) (i : TyI) : Prop where
 info : ∃ info, P.info? t = some info ∧ info.size = i.size ∧ info.bytes = i.bytes ∧ (i.zero ≠ [] → i.zero.length = i.size ∧ ∃ z, info.zero = some z ∧ z.cells.toList = i.zero.map Z.val ∧ (i.kind.agg = true → z = .agg (i.zero.map Z.val).toArray) ∧ (i.kind.agg = false → i.zero.map Z.val = [z]))
 desc : ∃ d, P.underlying t = some d ∧ i.kind.ok P d = true
 cmp : i.cmp = true → cmpOk P t = true
theorem tyOk_facts {P : Program} {t : TypeId} {i : TyI} (h : tyOk P t i = true) : TyFacts P t i := by
 unfold tyOk at h
 split at h
 ·rename_i info d hi hd
  simp only [Bool.and_eq_true, beq_iff_eq] at h
  obtain ⟨⟨⟨⟨⟨h1, h2⟩, h5⟩, h3⟩, h4⟩, h6⟩ := h
  refine ⟨⟨info, hi, h1, h2, fun hz => ?_⟩, ⟨d, hd, h4⟩, fun hc => by simpa [hc] using h6⟩
  split at h3
  ·rename_i z hzz
   simp only [Bool.and_eq_true] at h3
   have he := zerosOk_eq h3.1
   refine ⟨by simpa [hz] using h5, z, hzz, he, fun ha => ?_, fun ha => ?_⟩
   ·have h4 := h3.2
    split at h4
    ·simp only [Value.cells] at he; rw [← he]
    ·simp at h4
    ·simp [ha] at h4
   ·have h4 := h3.2
    split at h4
    ·simp [ha] at h4
    ·simp at h4
    ·rw [← he]; unfold Value.cells; split <;> simp_all
  ·rename_i hzz
   simp at h3
   exact absurd h3 hz
 ·simp at h

structure Tab (P : Program) where
 tb : TypeId → Option TyI
 mixed : P.follows .mixedOrders = true
 ok : ∀ t i, tb t = some i → TyFacts P t i

section
variable {P : Program} {V : View} {bs : Loc}

theorem add_eq (b o n : Nat) : (⟨b, o, none⟩ : Addr).add n = ⟨b, o + n, none⟩ := by
 unfold Addr.add; split <;> simp_all

theorem TyFacts.run_underlying {t : TypeId} {i : TyI} (h : TyFacts P t i) : ∃ d, i.kind.ok P d = true ∧ ∀ w, (underlying t).run P w = .ok d w := by
 obtain ⟨d, hd, hk⟩ := h.desc
 exact ⟨d, hk, fun w => Go.run_underlying hd w⟩
theorem TyFacts.run_sizeOf {t : TypeId} {i : TyI} (h : TyFacts P t i) (w : World) : (sizeOf t).run P w = .ok i.size w := by
 obtain ⟨info, hi, hs, _, _⟩ := h.info
 simp [sizeOf, typeInfo, hi, hs]
theorem TyFacts.run_zero {t : TypeId} {i : TyI} (h : TyFacts P t i) (hz : i.zero ≠ []) (w : World) : ∃ z, (zeroValue t).run P w = .ok z w ∧ z.cells.toList = i.zero.map Z.val ∧ (i.kind.agg = true → z = .agg (i.zero.map Z.val).toArray) ∧ (i.kind.agg = false → i.zero.map Z.val = [z]) := by
 obtain ⟨info, hi, _, _, hz'⟩ := h.info
 obtain ⟨_, z, h1, h2⟩ := hz' hz
 exact ⟨z, by simp [zeroValue, typeInfo, hi, h1], h2⟩
theorem TyFacts.zlen {t : TypeId} {i : TyI} (h : TyFacts P t i) (hz : i.zero ≠ []) : i.zero.length = i.size := by
 obtain ⟨info, _, _, _, hz'⟩ := h.info
 exact (hz' hz).1
theorem TyFacts.run_isAgg {t : TypeId} {i : TyI} (h : TyFacts P t i) (w : World) : (isAgg t).run P w = .ok i.kind.agg w := by
 obtain ⟨d, hk, hu⟩ := h.run_underlying
 simp only [isAgg, Sem.run_bind, hu, Result.andThen_ok]
 cases hkind : i.kind <;> rw [hkind] at hk <;> cases d <;> simp_all [TK.ok, TK.agg]
end
end Go.Proofs.Ytpdjehnlejjfmaa.D
/- The operations that touch no memory, or only read it. -/
namespace Go.Proofs.Ytpdjehnlejjfmaa.D
open Go.RowKit

def ofCell : Value → CV
 | .slice none 0 0 => .nil
 | v => if v.oneCell' = true then .dv (.sc v) else .dead
def ofVal : Value → SV
 | .agg cs => .agg (cs.toList.map ofCell)
 | v => .one (ofCell v)
def St.ev (S : St) : Operand → SV
 | .tmp t => S.T t
 | .const v => ofVal v
 | .global _ => .one .dead
 | .func f => .one (.dv (.sc (.func (.func f) #[] #[])))
def upd {α β : Type} [DecidableEq α] (f : α → β) (i : α) (x : β) : α → β := fun j => if j = i then x else f j
@[simp] theorem upd_same {α β : Type} [DecidableEq α] (f : α → β) (i : α) (x : β) : upd f i x i = x := by simp [upd]
theorem upd_ne {α β : Type} [DecidableEq α] (f : α → β) (i j : α) (x : β) (h : j ≠ i) : upd f i x j = f j := by simp [upd, h]
def St.put (S : St) (d : Option Tmp) (v : SV) : St := match d with | some t => { S with T := upd S.T t v } | none => S

theorem ofCell_cr (V : View) (bs : Loc) (v : Value) : CR V bs (ofCell v) v := by
 unfold ofCell; split
 ·exact .nil
 ·split
  ·rename_i h; exact .dv (.sc v h)
  ·exact .dead v
theorem ofCells_cr (V : View) (bs : Loc) : ∀ vs : List Value, CRs V bs (vs.map ofCell) vs
 | [] => .nil
 | v :: vs => .cons (ofCell_cr V bs v) (ofCells_cr V bs vs)
theorem ofVal_vr (V : View) (bs : Loc) (v : Value) : VR V bs (ofVal v) v := by
 unfold ofVal; split
 ·rename_i cs; have := VR.agg (ofCells_cr V bs cs.toList); simpa using this
 ·exact .one (ofCell_cr V bs v)

theorem ev_ok {V : View} {bs : Loc} {S : St} {a : Act} (h : ∀ t, VR V bs (S.T t) (a.tmps.getD t undef)) (x : Operand) : VR V bs (S.ev x) (a.eval x) := by
 cases x with
 | tmp t => exact h t
 | const v => exact ofVal_vr V bs v
 | global g => exact .one (.dead _)
 | func f => exact .one (.dv (.sc _))

theorem Sat1.put {w0 : World} {M : Rows0} {N : Nat} {V : View} {bs : Loc} {S : St} {a : Act} {w : World} (h : Sat1 w0 M N V bs S a w) {d : Option Tmp} (hd : ∀ t, d = some t → t < N) {sv : SV} {v : Value}
  (hv : VR V bs sv v) : Sat1 w0 M N V bs (S.put d sv) (a.put d v) w := by
 cases d with
 | none => exact h
 | some t =>
  refine { h with tmps := fun u => ?_, defers := h.defers, nt := by simpa [Act.put] using h.nt, dom := h.dom, rows := h.rows }
  have ht : t < a.tmps.size := by rw [h.nt]; exact hd t rfl
  show VR V bs (upd S.T t sv u) _
  unfold upd
  split
  ·rename_i e; subst e; simpa [Act.put, ht] using hv
  ·rename_i e
   have := h.tmps u
   simpa [Act.put, Array.getElem?_setIfInBounds, Ne.symm e] using this

def binD (tb : TypeId → Option TyI) (op : BinOp) (t : TypeId) (u v : Value) (K : Value → Prop) : Prop :=
 match op, u, v with
 | .shl, .int k a, .int _ b => 0 ≤ b ∧ K (.int k (k.wrap (a * 2 ^ (min b.toNat k.bits))))
 | .shr, .int k a, .int _ b => 0 ≤ b ∧ K (.int k (a.fdiv (2 ^ (min b.toNat k.bits))))
 | .add, .int k a, .int k' b => k = k' ∧ K (.int k (k.wrap (a + b)))
 | .sub, .int k a, .int k' b => k = k' ∧ K (.int k (k.wrap (a - b)))
 | .mul, .int k a, .int k' b => k = k' ∧ K (.int k (k.wrap (a * b)))
 | .quo, .int k a, .int k' b => k = k' ∧ b ≠ 0 ∧ K (.int k (k.wrap (a.tdiv b)))
 | .rem, .int k a, .int k' b => k = k' ∧ b ≠ 0 ∧ K (.int k (a.tmod b))
 | .and, .int k a, .int k' b => k = k' ∧ K (.int k (bits .and k a b))
 | .or, .int k a, .int k' b => k = k' ∧ K (.int k (bits .or k a b))
 | .xor, .int k a, .int k' b => k = k' ∧ K (.int k (bits .xor k a b))
 | .andNot, .int k a, .int k' b => k = k' ∧ K (.int k (bits .andNot k a b))
 | .eql, .int k a, .int k' b => k = k' ∧ K (.bool (a == b))
 | .neq, .int k a, .int k' b => k = k' ∧ K (.bool (a != b))
 | .lss, .int k a, .int k' b => k = k' ∧ K (.bool (decide (a < b)))
 | .leq, .int k a, .int k' b => k = k' ∧ K (.bool (decide (a ≤ b)))
 | .gtr, .int k a, .int k' b => k = k' ∧ K (.bool (decide (a > b)))
 | .geq, .int k a, .int k' b => k = k' ∧ K (.bool (decide (a ≥ b)))
 | .add, .string a, .string b => ((a.size + b.size : Nat) : Int) ≤ 9223372036854775807 ∧ K (.string (a ++ b))
 | .eql, .string a, .string b => K (.bool (a.toList == b.toList))
 | .neq, .string a, .string b => K (.bool !(a.toList == b.toList))
 | .lss, .string a, .string b => K (.bool (Op.bytesLess a.toList b.toList))
 | .leq, .string a, .string b => K (.bool (Op.bytesLess a.toList b.toList || a.toList == b.toList))
 | .gtr, .string a, .string b => K (.bool !(Op.bytesLess a.toList b.toList || a.toList == b.toList))
 | .geq, .string a, .string b => K (.bool !(Op.bytesLess a.toList b.toList))
 | .eql, .bool a, .bool b => (match tb t with | some { kind := .bool, .. } => K (.bool (a == b)) | _ => False)
 | .neq, .bool a, .bool b => (match tb t with | some { kind := .bool, .. } => K (.bool !(a == b)) | _ => False)
 | _, _, _ => False

theorem TyFacts.bool {P : Program} {t : TypeId} {i : TyI} (h : TyFacts P t i) (hk : i.kind = .bool) : P.underlying t = some .bool := by
 obtain ⟨d, hd, h2⟩ := h.desc
 rw [hk] at h2
 cases d <;> simp [TK.ok] at h2
 exact hd

theorem equal_bool {P : Program} {t : TypeId} (hu : P.underlying t = some .bool) (a b : Bool) (w : World) : (Op.equal t (.bool a) (.bool b)).run P w = .ok (a == b) w := by
 have h : Op.equal t (.bool a) (.bool b) = Op.equalIn (9999 + 1) t (.bool a) (.bool b) := rfl
 rw [h]; unfold Op.equalIn
 simp [run_underlying hu]
theorem strAdd {P : Program} (a b : ByteArray) (h : ((a.size + b.size : Nat) : Int) ≤ 9223372036854775807) (w : World) : (Op.stringOp .add a b).run P w = .ok (.string (a ++ b)) w := by
 have : ¬ (((a.size + b.size : Nat) : Int) > IntKind.i64.max) := by
  have : IntKind.i64.max = 9223372036854775807 := by decide
  omega
 unfold Op.stringOp
 simp only [this, if_false]
 rfl

theorem binD_run {P : Program} (tb : Tab P) {op : BinOp} {t : TypeId} {u v : Value} {K : Value → Prop} (h : binD tb.tb op t u v K) (w : World) (x y : Operand) :
    ∃ r, K r ∧ r.oneCell' = true ∧ (do eqGuard op t x y u v; binOp op t u v : Sem Value).run P w = .ok r w := by
  unfold binD at h
  split at h <;> first
    | (obtain ⟨h0, h⟩ := h; refine ⟨_, h, rfl, ?_⟩; simp [eqGuard, binOp, Op.shift, Int.not_lt.2 h0]; done)
    | (obtain ⟨rfl, h⟩ := h; refine ⟨_, h, rfl, ?_⟩; simp [eqGuard, binOp, Op.intArith, Op.intCmp]; done)
    | (obtain ⟨rfl, h0, h⟩ := h; refine ⟨_, h, rfl, ?_⟩; simp [eqGuard, binOp, Op.intDiv, h0]; done)
    | (obtain ⟨rfl, h⟩ := h; refine ⟨_, h, rfl, ?_⟩; simp [eqGuard, binOp, Op.intBits, bits]; done)
    | (obtain ⟨h0, h⟩ := h; refine ⟨_, h, rfl, ?_⟩; simp [eqGuard, binOp, strAdd _ _ h0]; done)
    | (refine ⟨_, h, rfl, ?_⟩; simp [eqGuard, binOp, Op.stringOp]; done)
    | (split at h
       · rename_i heq
         refine ⟨_, h, rfl, ?_⟩
         have hu := (tb.ok _ _ heq).bool rfl
         simp [eqGuard, binOp, equal_bool hu]
       · exact h.elim)
    | exact h.elim
end Go.Proofs.Ytpdjehnlejjfmaa.D
/- The operations that touch no memory, or only read it: their answers. -/
namespace Go.Proofs.Ytpdjehnlejjfmaa.D
open Go.RowKit

abbrev vI (k : IntKind) (n : Int) : SV := .one (.dv (.sc (.int k n)))
abbrev vB (b : Bool) : SV := .one (.dv (.sc (.bool b)))
abbrev vS (s : ByteArray) : SV := .one (.dv (.sc (.string s)))

def cellOk : CV → Bool
 | .dead => false
 | .dv (.sc v) => v.oneCell'
 | _ => true
theorem cellOk_one {V : View} {bs : Loc} {c : CV} {v : Value} (h : CR V bs c v) (hc : cellOk c = true) : v.oneCell' = true := by
 cases h with
 | dead => simp [cellOk] at hc
 |dv h => cases h with
  | sc _ h => exact h
  | nil => rfl
  | sl => rfl
 | _ => rfl
def SV.cells? : SV → Option (List CV)
 | .one c => if cellOk c then some [c] else none
 | .agg cs => some cs
 | .tup _ => none
 | .arr ds => some (ds.map .dv)
theorem SV.cells_ok {V : View} {bs : Loc} {sv : SV} {v : Value} {cs : List CV} (h : VR V bs sv v) (hc : sv.cells? = some cs) : CRs V bs cs v.cells.toList := by
 cases h with
 | one h =>
  simp only [SV.cells?] at hc
  split at hc
  ·rename_i hk
   have h1 := cellOk_one h hk
   simp at hc; subst hc
   have : ∀ {v : Value}, v.oneCell' = true → v.cells.toList = [v] := by intro v hv; cases v <;> simp_all [Value.cells, Value.oneCell']
   rw [this h1]
   exact .cons h .nil
  ·simp at hc
 | agg h => simp [SV.cells?] at hc; subst hc; simpa [Value.cells] using h
 | arr h => simp [SV.cells?] at hc; subst hc; simpa [Value.cells] using h
 | tup => simp [SV.cells?] at hc

def aggD (cs : List CV) (K : SV → Prop) : Prop := K (.agg cs) ∨ ∃ ds, cs = ds.map CV.dv ∧ K (.arr ds)
theorem aggD_ok {V : View} {bs : Loc} {cs : List CV} {us : List Value} {K : SV → Prop} (hc : CRs V bs cs us) (h : aggD cs K) : ∃ sv, K sv ∧ VR V bs sv (.agg us.toArray) := by
 rcases h with h | ⟨ds, rfl, h⟩
 ·exact ⟨_, h, .agg hc⟩
 ·exact ⟨_, h, .arr hc⟩
theorem aggD_mono {cs : List CV} {K K' : SV → Prop} (hk : ∀ v, K v → K' v) (h : aggD cs K) : aggD cs K' := h.imp (hk _) fun ⟨ds, e, h⟩ => ⟨ds, e, hk _ h⟩
def selD (i : TyI) (cs : List CV) (off : Nat) (K : SV → Prop) : Prop :=
 match i.kind.agg with
 | true => off + i.size ≤ cs.length ∧ aggD ((cs.drop off).take i.size) K
 | false => match cs[off]? with | some c => K (.one c) | none => False

def ptrAdd : CV → Nat → Option CV
 | .ptr p o, n => some (.ptr p (o + n))
 | .ep p k i f, n => some (.ep p k i (f + n))
 | .dp c f, n => some (.dp c (f + n))
 | _, _ => none
theorem ptrAdd_ok {V : View} {bs : Loc} {c c' : CV} {v : Value} {n : Nat} (h : CR V bs c v) (hc : ptrAdd c n = some c') :
  ∃ b o, v = .pointer (some ⟨b, o, none⟩) ∧ CR V bs c' (.pointer (some ((⟨b, o, none⟩ : Addr).add n))) := by
 cases h with
 | ptr h => simp [ptrAdd] at hc; subst hc; exact ⟨_, _, rfl, by rw [add_eq]; exact .ptr h⟩
 | ep h => simp [ptrAdd] at hc; subst hc; exact ⟨_, _, rfl, by rw [add_eq, Nat.add_assoc]; exact .ep h⟩
 | dp h1 h2 => simp [ptrAdd] at hc; subst hc; exact ⟨_, _, rfl, by rw [add_eq, Nat.add_assoc]; exact .dp h1 h2⟩
 | _ => simp [ptrAdd] at hc

def St.Lx (S : St) : Nm → Option (Nat × List (List DV))
 | .v p => match S.L p with | some (.own k es) => some (k, es) | _ => none
 |.h p i j => match S.L p with
  | some (.own _ es) => (match es[i]? with | some e => (match e[j]? with | some (.ow k _ _ es') => some (k, es') | _ => none) | none => none)
  | _ => none
def toCV (nm : Nm) (i j : Nat) (d : DV) : CV :=
 match d with
 | .ow k off len _ => (match nm with | .v p => .os (.h p i j) k off len | .h _ _ _ => .dead)
 | .no => .dead
 | d => .dv d
def cvs (nm : Nm) (i : Nat) : Nat → List DV → List CV
 | _, [] => []
 | j, d :: ds => toCV nm i j d :: cvs nm i (j + 1) ds
theorem cvs_get (nm : Nm) (i : Nat) : ∀ (j0 : Nat) (ds : List DV) (j : Nat) (x : CV), (cvs nm i j0 ds)[j]? = some x → ∃ d, ds[j]? = some d ∧ x = toCV nm i (j0 + j) d
 | _, [], j, x, h => by simp [cvs] at h
 |j0, d :: ds, j, x, h => by
  cases j with
  | zero => simp [cvs] at h; exact ⟨d, rfl, h.symm⟩
  | succ j =>
   simp [cvs] at h
   obtain ⟨d', h1, h2⟩ := cvs_get nm i (j0 + 1) ds j x h
   exact ⟨d', by simpa using h1, by rw [h2]; congr 1; omega⟩
theorem cvs_length (nm : Nm) (i : Nat) : ∀ (j0 : Nat) (ds : List DV), (cvs nm i j0 ds).length = ds.length
 | _, [] => rfl
 | j0, d :: ds => by simp [cvs, cvs_length]
def ptrCells (S : St) : CV → Option (List CV × Nat)
 | .ptr p o => match S.L p with | some (.box cs) => some (cs, o) | _ => none
 | .ep p k i f => match S.Lx p with | some (k', es) => if k = k' then some (cvs p i 0 (es.getD i []), f) else none | _ => none
 | .dp c f => some (c.map .dv, f)
 | _ => none

section
variable {w0 : World} {M : Rows0} {N : Nat} {V : View} {bs : Loc} {S : St} {a : Act} {w : World}

theorem CellR.rd_of {nm nm' : Nm} {v : Value} {d : DV} (h : Rd V v d) : CellR V bs w nm v d := .rd h
theorem Lx_sat (hs : Sat1 w0 M N V bs S a w) {nm : Nm} {k : Nat} {es : List (List DV)} (h : S.Lx nm = some (k, es)) :
  (∃ b n, bs nm = some (b, n) ∧ es.length * k ≤ n ∧ (∀ j, j < n → (w.cell? ⟨b, j, none⟩).isSome ∧ w.frozen? ⟨b, j, none⟩ = false) ∧ (∀ i (h : i < es.length), es[i].length = k) ∧
   ∀ i j (hi : i < es.length) (hj : j < es[i].length), ∃ v, w.cell? ⟨b, i * k + j, none⟩ = some v ∧ CR V bs (toCV nm i j es[i][j]) v ∧ (∀ p i' j', nm = .h p i' j' → Rd V v es[i][j])) ∨ es = [] := by
 cases nm with
 | v p =>
  simp only [St.Lx] at h
  split at h
  ·rename_i k' es' hL
   simp only [Option.some.injEq, Prod.mk.injEq] at h
   obtain ⟨rfl, rfl⟩ := h
   rcases hs.rows p _ hL with ⟨b, n, hb, h1, h2, h3, h4⟩ | ⟨_, k0, hk⟩
   ·refine .inl ⟨b, n, hb, h1, h2, h3, fun i j hi hj => ?_⟩
    obtain ⟨v, h5, h6⟩ := h4 i j hi hj
    refine ⟨v, h5, ?_, fun _ _ _ h => by simp at h⟩
    generalize es'[i][j] = d at h6
    cases h6 with
    |rd h => cases h with
     | sc v h => exact .dv (.sc v h)
     | nil a c => exact .dv (.nil a c)
     | sl b o k cap es f hc hk hV hr => exact .dv (.sl b o k cap es f hc hk hV hr)
    | no => exact .dead _
    | ow hb ho hl hc h => exact .os hb hl hc
    | ownil a k _ => exact .oszero
   ·simp at hk; exact .inr hk.2
  ·simp at h
 | h p i j =>
  simp only [St.Lx] at h
  split at h
  ·rename_i k0 es0 hL
   split at h
   ·rename_i e he
    split at h
    ·rename_i k1 off len es1 hd
     simp only [Option.some.injEq, Prod.mk.injEq] at h
     obtain ⟨rfl, rfl⟩ := h
     obtain ⟨hi, he'⟩ := List.getElem?_eq_some_iff.1 he
     obtain ⟨hj, hd'⟩ := List.getElem?_eq_some_iff.1 hd
     subst he'
     rcases hs.rows p _ hL with ⟨b, n, hb, h1, h2, h3, h4⟩ | ⟨_, k0, hk⟩
     ·obtain ⟨v, h5, h6⟩ := h4 i j hi hj
      rw [hd'] at h6
      cases h6 with
      | rd h => cases h
      | ow hb ho hl hc h =>
       obtain ⟨g1, g2, g3, g4⟩ := h
       refine .inl ⟨_, _, hb, g1, g2, g3, fun i2 j2 hi2 hj2 => ?_⟩
       obtain ⟨v, g5, g6⟩ := g4 i2 j2 hi2 hj2
       refine ⟨v, g5, ?_, fun _ _ _ _ => g6⟩
       generalize es1[i2][j2] = d at g6
       cases g6 with
       | sc v h => exact .dv (.sc v h)
       | nil a c => exact .dv (.nil a c)
       | sl b o k cap es f hc hk hV hr => exact .dv (.sl b o k cap es f hc hk hV hr)
      | ownil a k _ => exact .inr rfl
     ·simp at hk; obtain ⟨rfl, rfl⟩ := hk; simp at hi
    ·simp at h
   ·simp at h
  ·simp at h

theorem ptrCells_ok (hs : Sat1 w0 M N V bs S a w) {c : CV} {v : Value} {cs : List CV} {o : Nat} (h : CR V bs c v) (hc : ptrCells S c = some (cs, o)) :
  ∃ b base, v = .pointer (some ⟨b, base + o, none⟩) ∧ ∀ j x, cs[j]? = some x → ∃ u, w.cell? ⟨b, base + j, none⟩ = some u ∧ CR V bs x u := by
 cases h with
 | @ptr p off b n h =>
  simp only [ptrCells] at hc
  split at hc
  ·rename_i cs' hL
   simp at hc; obtain ⟨rfl, rfl⟩ := hc
   refine ⟨b, 0, by simp, fun j x hx => ?_⟩
   rcases hs.rows p _ hL with ⟨b', n', hb, hr⟩ | ⟨_, k, hk⟩
   ·rw [h] at hb; simp at hb; obtain ⟨rfl, rfl⟩ := hb
    obtain ⟨_, _, _, vs, h1, h2⟩ := hr
    obtain ⟨u, hu, hcr⟩ := h1.get j x hx
    exact ⟨u, by simpa using h2 j u hu, hcr⟩
   ·simp at hk
  ·simp at hc
 | @ep p k i f b n h =>
  simp only [ptrCells] at hc
  split at hc
  ·rename_i k' es hL
   split at hc
   ·rename_i hk; subst hk
    simp at hc; obtain ⟨rfl, rfl⟩ := hc
    refine ⟨b, i * k, by simp, fun j x hx => ?_⟩
    obtain ⟨d, hd, rfl⟩ := cvs_get p i 0 _ j x hx
    have hi : i < es.length := by
     rcases Nat.lt_or_ge i es.length with h' | h'
     ·exact h'
     ·rw [List.getElem?_eq_none h'] at hd; simp at hd
    have hg : es[i]? = some es[i] := List.getElem?_eq_getElem hi
    rw [hg] at hd
    simp only [Option.getD_some] at hd
    obtain ⟨hj, hd'⟩ := List.getElem?_eq_some_iff.1 hd
    rcases Lx_sat hs hL with ⟨b', n', hb, h1, h2, h3, h4⟩ | rfl
    ·rw [h] at hb; simp at hb; obtain ⟨rfl, rfl⟩ := hb
     obtain ⟨u, hu, hrd, _⟩ := h4 i j hi hj
     rw [hd'] at hrd
     exact ⟨u, hu, by rw [Nat.zero_add]; exact hrd⟩
    ·simp at hi
   ·simp at hc
  ·simp at hc
 | @dp cells f b o g h1 h2 =>
  simp [ptrCells] at hc; obtain ⟨rfl, rfl⟩ := hc
  refine ⟨b, o, rfl, fun j x hx => ?_⟩
  rw [List.getElem?_map] at hx
  simp only [Option.map_eq_some_iff] at hx
  obtain ⟨d, hd, rfl⟩ := hx
  obtain ⟨hj, hd'⟩ := List.getElem?_eq_some_iff.1 hd
  exact ⟨_, hs.view _ _ (h1 j hj), .dv (hd' ▸ h2 j hj)⟩
 | _ => simp [ptrCells] at hc

theorem list_of_cells (f : Nat → Value → Prop) : ∀ (n base : Nat), (∀ j, j < n → ∃ u, f (base + j) u) → ∃ us : List Value, us.length = n ∧ ∀ j u, us[j]? = some u → f (base + j) u
 | 0, _, _ => ⟨[], rfl, fun j u h => by simp at h⟩
 |n + 1, base, h => by
  obtain ⟨u0, h0⟩ := h 0 (by omega)
  obtain ⟨us, hl, hu⟩ := list_of_cells f n (base + 1) (fun j hj => by have := h (j + 1) (by omega); rwa [show base + 1 + j = base + (j + 1) by omega])
  refine ⟨u0 :: us, by simp [hl], fun j u hj => ?_⟩
  cases j with
  | zero => simp at hj; subst hj; exact h0
  | succ j => simp at hj; have := hu j u hj; rwa [show base + (j + 1) = base + 1 + j by omega]

theorem loadVar_ok {P : Program} {t : TypeId} {i : TyI} (hT : TyFacts P t i) {K : SV → Prop} {cs : List CV} {o b base : Nat}
  (hcell : ∀ j x, cs[j]? = some x → ∃ u, w.cell? ⟨b, base + j, none⟩ = some u ∧ CR V bs x u) (h : selD i cs o K) :
  ∃ sv v, K sv ∧ VR V bs sv v ∧ (loadVar t ⟨b, base + o, none⟩).run P w = .ok v w := by
 unfold selD at h
 cases hk : i.kind.agg with
 | true =>
  rw [hk] at h
  obtain ⟨hle, hK⟩ := h
  obtain ⟨us, hl, hu⟩ := list_of_cells (fun j u => w.cell? ⟨b, base + j, none⟩ = some u ∧ ∀ x, cs[j]? = some x → CR V bs x u) i.size o (fun j hj => by
   have hx : cs[o + j]? = some (cs[o + j]'(by omega)) := List.getElem?_eq_getElem _
   obtain ⟨u, h1, h2⟩ := hcell _ _ hx
   exact ⟨u, h1, fun x hx' => by rw [hx] at hx'; simp at hx'; subst hx'; exact h2⟩)
  have hcrs : CRs V bs ((cs.drop o).take i.size) us := by
   apply CRs.of_get
   ·simp [hl]; omega
   ·intro j x u hx hj
    have hjl : j < i.size := by
     rcases Nat.lt_or_ge j us.length with h' | h'
     ·omega
     ·rw [List.getElem?_eq_none h'] at hj; simp at hj
    refine (hu j u hj).2 x ?_
    rw [List.getElem?_take, if_pos hjl, List.getElem?_drop] at hx
    exact hx
  obtain ⟨sv, hK, hv⟩ := aggD_ok hcrs hK
  refine ⟨sv, _, hK, hv, ?_⟩
  have := run_loadCells_list (P := P) w ⟨b, base + o, none⟩ us (fun j v hj => by rw [add_eq, Nat.add_assoc]; exact (hu j v hj).1)
  simp [loadVar, hT.run_isAgg, hT.run_sizeOf, hk, ← hl, this]
 | false =>
  rw [hk] at h
  simp only at h
  split at h
  ·rename_i c hc
   obtain ⟨u, h1, h2⟩ := hcell _ _ hc
   exact ⟨_, _, h, .one h2, by simp [loadVar, hT.run_isAgg, hk, h1]⟩
  ·exact h.elim
end

def mapInt (S : St) (x : Operand) (K : IntKind → Int → Prop) : Prop :=
 match S.ev x with | .one (.dv (.sc (.int k n))) => K k n | _ => False
def fillC (place : Nat → Option (Nat × Nat)) (cells : List CV) : List (Nat × SV) → Option (List CV)
 | [] => some cells
 | (i, v) :: rest =>
  match place i, v.cells? with
  | some (off, size), some cs => if cs.length = size ∧ off + size ≤ cells.length then fillC place (cells.take off ++ cs ++ cells.drop (off + size)) rest else none
  | _, _ => none
def fieldPlaceD (tb : TypeId → Option TyI) (fs : List (Nat × TypeId)) (f : Nat) : Option (Nat × Nat) :=
 match fs[f]? with
 | some (off, t) => match tb t with | some i => some (off, i.size) | none => none
 | none => none
def boundD (S : St) (x : Option Operand) (dflt y : Nat) (K : Nat → Prop) : Prop :=
 match x with
 | none => K dflt
 | some x => mapInt S x fun _ n => (0 ≤ n ∧ n ≤ (y : Int)) ∧ K n.toNat

def lenD (tb : TypeId → Option TyI) (t : TypeId) (v : SV) (K : SV → Prop) : Prop :=
 match tb t, v with
 | some { kind := .string, .. }, .one (.dv (.sc (.string s))) => K (vI .i64 s.size)
 | some { kind := .slice _, .. }, .one (.dv (.sl es)) => K (vI .i64 es.length)
 | some { kind := .slice _, .. }, .one (.os _ _ _ n) => K (vI .i64 n)
 | some { kind := .slice _, .. }, .one .nil => K (vI .i64 0)
 | some { kind := .array n _, .. }, _ => K (vI .i64 n)
 | _, _ => False

def callValD (tb : TypeId → Option TyI) (S : St) (c : Callee) (args : List Operand) (types : List TypeId) (K : SV → Prop) : Prop :=
 match c with
 | .builtin .len => (match args, types with | [x], [t] => lenD tb t (S.ev x) K | _, _ => False)
 | .builtin .max => (match args with | [x, y] => mapInt S x fun k m => mapInt S y fun _ n => K (vI k (if n > m then n else m)) | _ => False)
 | .builtin .min => (match args with | [x, y] => mapInt S x fun k m => mapInt S y fun _ n => K (vI k (if n < m then n else m)) | _ => False)
 | _ => False

def pickS (q : Bool) (a b : SV) : SV :=
 match a, b with
 | .one (.dv (.sc (.bool x))), .one (.dv (.sc (.bool y))) => vB (if q = true then x else y)
 | a, b => if q = true then a else b
theorem pickS_eq (q : Bool) (a b : SV) : pickS q a b = if q = true then a else b := by
 unfold pickS; split
 ·cases q <;> simp
 ·rfl

def eqFs (tb : TypeId → Option TyI) (rec : TypeId → SV → SV → (Bool → Prop) → Prop) : List (Nat × TypeId) → List CV → List CV → (Bool → Prop) → Prop
 | [], _, _, K => K true
 | (off, ft) :: rest, cs, ds, K =>
  match tb ft with
  | some i => selD i cs off fun a => selD i ds off fun b => rec ft a b fun r => eqFs tb rec rest cs ds fun r' => K (r && r')
  | none => False
def eqK (tb : TypeId → Option TyI) : Nat → TypeId → SV → SV → (Bool → Prop) → Prop
 | 0, _, _, _, _ => False
 | n + 1, t, u, v, K =>
  match tb t, u, v with
  | some { kind := .int _, .. }, .one (.dv (.sc (.int k a))), .one (.dv (.sc (.int k' b))) => k = k' ∧ K (a == b)
  | some { kind := .string, .. }, .one (.dv (.sc (.string a))), .one (.dv (.sc (.string b))) => K (a.toList == b.toList)
  | some { kind := .bool, .. }, .one (.dv (.sc (.bool a))), .one (.dv (.sc (.bool b))) => K (a == b)
  | some { kind := .struct fs, cmp := true, .. }, .agg cs, .agg ds => eqFs tb (eqK tb n) fs cs ds K
  | _, _, _ => False

def valD (tb : TypeId → Option TyI) (S : St) (op : Op) (K : SV → Prop) : Prop :=
 match op with
 | .move x => K (S.ev x)
 | .assign x => K (S.ev x)
 | .pick c a b => match S.ev c with | .one (.dv (.sc (.bool q))) => K (pickS q (S.ev a) (S.ev b)) | _ => False
 | .binOp op t x y _ =>
  match S.ev x, S.ev y with
  | .one (.dv (.sc u)), .one (.dv (.sc v)) => binD tb op t u v fun r => K (.one (.dv (.sc r)))
  | .agg cs, .agg ds =>
   match op with
   | .eql => eqK tb 20 t (.agg cs) (.agg ds) fun r => K (vB r)
   | .neq => eqK tb 20 t (.agg cs) (.agg ds) fun r => K (vB !r)
   | _ => False
  | _, _ => False
 | .unOp op _ x =>
  match op, S.ev x with
  | .neg, .one (.dv (.sc (.int k n))) => K (vI k (k.wrap (0 - n)))
  | .xor, .one (.dv (.sc (.int k n))) => K (vI k (bits .xor k (if k.signed then -1 else k.max) n))
  | .not, .one (.dv (.sc (.bool b))) => K (vB !b)
  | _, _ => False
 | .convert src dst x =>
  match tb src, tb dst, S.ev x with
  | some _, some { kind := .int k, .. }, .one (.dv (.sc (.int _ n))) => K (vI k (k.wrap n))
  | some { kind := .string, .. }, some { kind := .string, .. }, .one (.dv (.sc (.string s))) => K (vS s)
  | _, _, _ => False
 | .fieldAddr s x f =>
  match tb s, S.ev x with
  | some { kind := .struct fs, .. }, .one c => (match fs[f]? with | some (off, _) => (match ptrAdd c off with | some c' => K (.one c') | none => False) | none => False)
  | _, _ => False
 | .field s x f =>
  match tb s, S.ev x with
  | some { kind := .struct fs, .. }, .agg cs => (match fs[f]? with | some (off, t) => (match tb t with | some i => selD i cs off K | none => False) | none => False)
  | _, _ => False
 | .indexAddr t x ix => mapInt S ix fun _ n =>
  match tb t, S.ev x with
  | some { kind := .slice e, .. }, .one (.dv (.sl es)) => (match tb e with | some i => ((0 ≤ n ∧ n < (es.length : Int)) ∧ (es.getD n.toNat []).length = i.size) ∧ K (.one (.dp (es.getD n.toNat []) 0)) | none => False)
  | some { kind := .slice e, .. }, .one (.os p k off len) => (match tb e with | some i => i.size = k ∧ (0 ≤ n ∧ n < (len : Int)) ∧ K (.one (.ep p k (off + n.toNat) 0)) | none => False)
  | some { kind := .array m e, .. }, .one c => (match tb e with | some i => (0 ≤ n ∧ n < (m : Int)) ∧ (match ptrAdd c (n.toNat * i.size) with | some c' => K (.one c') | none => False) | none => False)
  | _, _ => False
 | .index t x ix => mapInt S ix fun _ n =>
  match tb t, S.ev x with
  | some { kind := .array m e, .. }, .agg cs => (match tb e with | some i => (0 ≤ n ∧ n < (m : Int)) ∧ selD i cs (n.toNat * i.size) K | none => False)
  | some { kind := .array m e, .. }, .arr ds => (match tb e with | some i => (0 ≤ n ∧ n < (m : Int)) ∧ selD i (ds.map .dv) (n.toNat * i.size) K | none => False)
  | some { kind := .string, .. }, .one (.dv (.sc (.string s))) => 0 ≤ n ∧ (match s[n.toNat]? with | some b => K (vI .u8 b.toNat) | none => False)
  | _, _ => False
 | .slice t x lo hi mx =>
  match tb t, S.ev x with
  | some { kind := .string, .. }, .one (.dv (.sc (.string s))) => mx = none ∧ boundD S hi s.size s.size fun h => boundD S lo 0 h fun l => K (vS (s.extract l h))
  |some { kind := .slice e, .. }, .one (.dv (.sl es)) => (match tb e with
   | some i => (∀ e ∈ es, e.length = i.size) ∧ mx = none ∧ boundD S hi es.length es.length fun h => boundD S lo 0 h fun l => K (.one (.dv (.sl ((es.take h).drop l))))
   | none => False)
  |some { kind := .slice e, .. }, .one (.os p k off len) => (match tb e with
   | some i => i.size = k ∧ mx = none ∧ boundD S hi len len fun h => boundD S lo 0 h fun l => K (.one (.os p k (off + l) (h - l)))
   | none => False)
  |some { kind := .array m e, .. }, .one (.ptr p o) => (match tb e with
   | some i => (lo = none ∧ hi = none ∧ mx = none) ∧ K (.one (.sb p o i.size m))
   | none => False)
  | _, _ => False
 | .extract x ix =>
  match S.ev x with
  | .tup vs => (match vs[ix]? with | some (true, cs) => aggD cs K | some (false, [c]) => K (.one c) | _ => False)
  | _ => False
 | .nilCheck x =>
  match S.ev x with
  | .one (.ptr p o) => K (.one (.ptr p o))
  | .one (.ep p k i f) => K (.one (.ep p k i f))
  | .one (.dp c f) => K (.one (.dp c f))
  | .one (.dv (.sc (.func (.func f) u v))) => K (.one (.dv (.sc (.func (.func f) u v))))
  | _ => False
 | .build t parts =>
  match tb t with
  | some { kind := .struct fs, zero := z, .. } =>
   z ≠ [] ∧ (match fillC (fieldPlaceD tb fs) (z.map Z.cv) (parts.toList.map fun p => (p.1, S.ev p.2)) with | some cs => K (.agg cs) | none => False)
  | some { kind := .array _ e, zero := z, .. } =>
   (match tb e with
   | some i => z ≠ [] ∧ (match fillC (fun j => some (j * i.size, i.size)) (z.map Z.cv) (parts.toList.map fun p => (p.1, S.ev p.2)) with | some cs => K (.agg cs) | none => False)
   | none => False)
  | _ => False
 | .load t x =>
  match tb t, S.ev x with
  | some i, .one c => (match ptrCells S c with | some (cs, o) => selD i cs o K | none => False)
  | _, _ => False
 | .call c => callValD tb S c.callee c.args.toList c.argTypes.toList K
 | _ => False
end Go.Proofs.Ytpdjehnlejjfmaa.D
/- The answers of the operations that touch no memory, or only read it, are the model's. -/
namespace Go.Proofs.Ytpdjehnlejjfmaa.D
open Go.RowKit

section
variable {P : Program} (tb : Tab P) {w0 : World} {M : Rows0} {N : Nat} {V : View} {bs : Loc} {S : St} {a : Act} {w : World}

theorem vr_sc {u v : Value} (h : VR V bs (.one (.dv (.sc u))) v) : v = u := by
 cases h with | one h => cases h with | dv h => cases h; rfl
theorem vr_one {c : CV} {v : Value} (h : VR V bs (.one c) v) : CR V bs c v := by
 cases h; assumption

theorem mapInt_ok (hs : Sat1 w0 M N V bs S a w) {x : Operand} {K : IntKind → Int → Prop} (h : mapInt S x K) : ∃ k n, a.eval x = .int k n ∧ K k n := by
 unfold mapInt at h
 split at h
 ·rename_i k n he
  have := ev_ok hs.tmps x
  rw [he] at this
  exact ⟨k, n, vr_sc this, h⟩
 ·exact h.elim

theorem TyFacts.slice {t : TypeId} {i : TyI} (h : TyFacts P t i) {e : TypeId} (hk : i.kind = .slice e) : P.underlying t = some (.slice e) := by
 obtain ⟨d, hd, h2⟩ := h.desc; rw [hk] at h2
 cases d <;> simp [TK.ok] at h2
 subst h2; exact hd
theorem TyFacts.array {t : TypeId} {i : TyI} (h : TyFacts P t i) {e : TypeId} {n : Nat} (hk : i.kind = .array n e) : P.underlying t = some (.array n e) := by
 obtain ⟨d, hd, h2⟩ := h.desc; rw [hk] at h2
 cases d <;> simp [TK.ok] at h2
 obtain ⟨rfl, rfl⟩ := h2; exact hd
theorem TyFacts.string {t : TypeId} {i : TyI} (h : TyFacts P t i) (hk : i.kind = .string) : P.underlying t = some .string := by
 obtain ⟨d, hd, h2⟩ := h.desc; rw [hk] at h2
 cases d <;> simp [TK.ok] at h2
 exact hd
theorem TyFacts.int {t : TypeId} {i : TyI} (h : TyFacts P t i) {k : IntKind} (hk : i.kind = .int k) : P.underlying t = some (.int k) := by
 obtain ⟨d, hd, h2⟩ := h.desc; rw [hk] at h2
 cases d <;> simp [TK.ok] at h2
 subst h2; exact hd
theorem TyFacts.struct {t : TypeId} {i : TyI} (h : TyFacts P t i) {fs : List (Nat × TypeId)} (hk : i.kind = .struct fs) :
  ∃ fields : Array Field, P.underlying t = some (.struct fields) ∧ ∀ (f : Nat) off ty, fs[f]? = some (off, ty) → ∃ fd : Field, fields[f]? = some fd ∧ fd.offset = off ∧ fd.type = ty ∧ ∃ i, P.info? ty = some i ∧ i.size ≠ 0 := by
 obtain ⟨d, hd, h2⟩ := h.desc; rw [hk] at h2
 cases d <;> simp [TK.ok] at h2
 rename_i fields
 refine ⟨fields, hd, fun f off ty hf => ?_⟩
 obtain ⟨h2, h3⟩ := h2
 rw [h2, List.getElem?_map] at hf
 simp only [Option.map_eq_some_iff, Prod.mk.injEq] at hf
 obtain ⟨fd, hfd, rfl, rfl⟩ := hf
 have hfd' : fields[f]? = some fd := by simpa using hfd
 refine ⟨fd, hfd', rfl, rfl, ?_⟩
 obtain ⟨hlt, he⟩ := Array.getElem?_eq_some_iff.1 hfd'
 have := h3 f hlt
 rw [he] at this
 split at this
 ·rename_i i hi; exact ⟨i, hi, by simpa using this⟩
 ·simp at this

theorem selD_part {t : TypeId} {i : TyI} (hT : TyFacts P t i) {K : SV → Prop} {cs : List CV} {vs : List Value} {o : Nat} (hc : CRs V bs cs vs) (h : selD i cs o K) (w : World) :
  ∃ sv v, K sv ∧ VR V bs sv v ∧ (part t vs.toArray o).run P w = .ok v w := by
 unfold selD at h
 cases hk : i.kind.agg with
 | true =>
  rw [hk] at h
  obtain ⟨hle, hK⟩ := h
  obtain ⟨sv, hK, hv⟩ := aggD_ok ((hc.drop o).take i.size) hK
  refine ⟨sv, _, hK, hv, ?_⟩
  simp [part, hT.run_isAgg, hT.run_sizeOf, hk, List.take_drop]
 | false =>
  rw [hk] at h
  simp only at h
  split at h
  ·rename_i c hcc
   obtain ⟨u, h1, h2⟩ := hc.get _ _ hcc
   exact ⟨_, _, h, .one h2, by simp [part, hT.run_isAgg, hk, h1]⟩
  ·exact h.elim

theorem fillC_ok : ∀ (ps : List (Nat × SV)) (vs : List (Nat × Value)) (place place' : Nat → Option (Nat × Nat)) (cells cs : List CV) (us : List Value),
  (∀ i x, place i = some x → place' i = some x) → CRs V bs cells us →
  ps.length = vs.length → (∀ (i : Nat) j sv u, ps[i]? = some (j, sv) → vs[i]? = some u → u.1 = j ∧ VR V bs sv u.2) →
  fillC place cells ps = some cs → ∃ us' : List Value, Instr.fill place' us.toArray vs = some us'.toArray ∧ CRs V bs cs us'
 |[], [], _, _, cells, cs, us, _, hc, _, _, h => by
  simp [fillC] at h; subst h
  exact ⟨us, rfl, hc⟩
 |(j, sv) :: ps, (j', u) :: vs, place, place', cells, cs, us, hp, hc, hl, hv, h => by
  obtain ⟨hj, hvr⟩ := hv 0 j sv (j', u) rfl rfl
  simp only at hj; subst hj
  simp only [fillC] at h
  split at h
  ·rename_i off size cs' hpl hcs'
   split at h
   ·rename_i hcond
    obtain ⟨h1, h2⟩ := hcond
    have hcr := SV.cells_ok hvr hcs'
    have hlen := hcr.length
    have hus := hc.length
    have hfold : ∀ (xs : List Value) (n : Nat) (ys : List Value), off + n + xs.length ≤ ys.length →
      (xs.zipIdx n).foldl (fun (cs : Array Value) (p : Value × Nat) => cs.setIfInBounds (off + p.2) p.1) ys.toArray = (ys.take (off + n) ++ xs ++ ys.drop (off + n + xs.length)).toArray := by
     intro xs
     induction xs with
     | nil => intro n ys _; simp
     | cons x xs ih =>
      intro n ys hle
      simp only [List.length_cons] at hle
      simp only [List.zipIdx_cons, List.foldl_cons, List.setIfInBounds_toArray]
      rw [ih (n + 1) _ (by simp; omega)]
      congr 1
      apply List.ext_getElem?
      intro m
      simp only [List.getElem?_append, List.length_take, List.length_set, List.length_append, List.length_cons, List.getElem?_take, List.getElem?_set, List.getElem?_drop, List.getElem?_cons]
      rcases Nat.lt_trichotomy m (off + n) with hm | hm | hm
      ·have e1 : m < min (off + (n + 1)) ys.length := by omega
       have e2 : m < min (off + (n + 1)) ys.length + xs.length := by omega
       have e3 : m < min (off + n) ys.length := by omega
       have e4 : m < min (off + n) ys.length + (xs.length + 1) := by omega
       have e5 : m < off + (n + 1) := by omega
       have e6 : off + n ≠ m := by omega
       simp [e1, e2, e3, e4, e5, e6, hm]
      ·subst hm
       have e1 : off + n < min (off + (n + 1)) ys.length := by omega
       have e2 : off + n < min (off + (n + 1)) ys.length + xs.length := by omega
       have e3 : ¬ (off + n < min (off + n) ys.length) := by omega
       have e4 : off + n < min (off + n) ys.length + (xs.length + 1) := by omega
       have e5 : off + n < off + (n + 1) := by omega
       have e6 : off + n - min (off + n) ys.length = 0 := by omega
       have e7 : off + n < ys.length := by omega
       simp [e1, e2, e3, e4, e5, e6, e7]
      ·have e1 : ¬ (m < min (off + (n + 1)) ys.length) := by omega
       have e3 : ¬ (m < min (off + n) ys.length) := by omega
       have e6 : off + n ≠ m := by omega
       simp only [e1, e3, if_false]
       by_cases hb : m < min (off + (n + 1)) ys.length + xs.length
       ·have hb' : m < min (off + n) ys.length + (xs.length + 1) := by omega
        have e7 : m - min (off + n) ys.length ≠ 0 := by omega
        have e8 : m - min (off + (n + 1)) ys.length = m - min (off + n) ys.length - 1 := by omega
        simp [hb, hb', e7, e8]
       ·have hb' : ¬ (m < min (off + n) ys.length + (xs.length + 1)) := by omega
        have e8 : off + (n + 1) + xs.length + (m - (min (off + (n + 1)) ys.length + xs.length)) = m := by omega
        have e9 : off + n + (xs.length + 1) + (m - (min (off + n) ys.length + (xs.length + 1))) = m := by omega
        simp [hb, hb', e8, e9, e6]
    have hsz : u.cells.size = size := by rw [← h1, hlen]; simp
    have hf := hfold u.cells.toList 0 us (by simp; omega)
    have hnext : CRs V bs (cells.take off ++ cs' ++ cells.drop (off + size)) (us.take off ++ u.cells.toList ++ us.drop (off + size)) :=
     ((hc.take off).append hcr).append (hc.drop (off + size))
    obtain ⟨us', h3, h4⟩ := fillC_ok ps vs place place' _ cs _ hp hnext (by simpa using hl) (fun i j sv u h1 h2 => hv (i + 1) j sv u (by simpa using h1) (by simpa using h2)) h
    refine ⟨us', ?_, h4⟩
    simp only [Instr.fill, hp _ _ hpl]
    rw [if_neg]
    ·rw [← Array.foldl_toList]
     have hz : (u.cells.zipIdx).toList = u.cells.toList.zipIdx 0 := by simp
     rw [hz]
     simp only [Nat.add_zero] at hf
     have hsz' : u.cells.toList.length = size := by simpa using hsz
     rw [hsz'] at hf
     rw [← h3]
     exact congrArg (fun x => Instr.fill place' x vs) hf
    ·simp [hsz]; omega
   ·simp at h
  ·simp at h
 | [], _ :: _, _, _, _, _, _, _, _, hl, _, _ => by simp at hl
 | _ :: _, [], _, _, _, _, _, _, _, hl, _, _ => by simp at hl

theorem TyFacts.fields {t : TypeId} {i : TyI} (h : TyFacts P t i) {fs : List (Nat × TypeId)} (hk : i.kind = .struct fs) (hc : i.cmp = true) :
  P.underlying t = some (.struct (P.fieldsOf t)) ∧ P.stoodInHeld t = false ∧ P.eqGuardType P.depth t = false ∧ fs = (P.fieldsOf t).toList.map (fun f => (f.offset, f.type)) ∧ ∀ f ∈ (P.fieldsOf t).toList, f.name ≠ "_" := by
 have h1 := h.cmp hc
 simp only [cmpOk, Bool.and_eq_true, Bool.not_eq_true'] at h1
 obtain ⟨⟨h2, h3⟩, h4⟩ := h1
 obtain ⟨d, hd, hk'⟩ := h.desc; rw [hk] at hk'
 cases d <;> simp [TK.ok] at hk'
 have hf : P.fieldsOf t = ‹Array Field› := by simp [Program.fieldsOf, hd]
 rw [hf]
 refine ⟨hd, h3, h2, hk'.1, fun f hm => ?_⟩
 rw [hf] at h4
 have := Array.all_eq_true_iff_forall_mem.1 h4 f (by simpa using hm)
 simpa using this

theorem eqFs_ok (tb : Tab P) (w : World) (d : Nat) {rec : TypeId → SV → SV → (Bool → Prop) → Prop}
  (hrec : ∀ t sv sw u v K, VR V bs sv u → VR V bs sw v → rec t sv sw K → ∃ r, K r ∧ (Op.equalIn d t u v).run P w = .ok r w) {cs ds : List CV} {xs ys : List Value} (hx : CRs V bs cs xs) (hy : CRs V bs ds ys) :
  ∀ (fields : List Field) {K : Bool → Prop}, (∀ f ∈ fields, f.name ≠ "_") → eqFs tb.tb rec (fields.map fun f => (f.offset, f.type)) cs ds K → ∃ r, K r ∧ (Op.eqFields d xs.toArray ys.toArray fields).run P w = .ok r w
 | [], K, _, h => ⟨true, h, by simp [Op.eqFields]⟩
 |f :: fields, K, hn, h => by
  simp only [List.map_cons, eqFs] at h
  split at h
  ·rename_i i hi
   obtain ⟨sv, u, h, hu, ru⟩ := selD_part (tb.ok _ _ hi) hx h w
   obtain ⟨sw, v, h, hv, rv⟩ := selD_part (tb.ok _ _ hi) hy h w
   obtain ⟨r, h, rr⟩ := hrec _ _ _ _ _ _ hu hv h
   obtain ⟨r', h, rr'⟩ := eqFs_ok tb w d hrec hx hy fields (fun f hf => hn f (List.mem_cons_of_mem _ hf)) h
   refine ⟨_, h, ?_⟩
   have hnf := hn f (List.mem_cons_self ..)
   simp only [Op.eqFields, if_pos hnf, Sem.run_bind, ru, rv, rr, Result.andThen_ok]
   cases r
   ·simp
   ·simpa using rr'
  ·exact h.elim

theorem eqK_ok (tb : Tab P) (w : World) : ∀ (n d : Nat) (t : TypeId) (sv sw : SV) (u v : Value) (K : Bool → Prop), n ≤ d → VR V bs sv u → VR V bs sw v → eqK tb.tb n t sv sw K → ∃ r, K r ∧ (Op.equalIn d t u v).run P w = .ok r w
 | 0, _, _, _, _, _, _, _, _, _, _, h => h.elim
 | n + 1, 0, _, _, _, _, _, _, hd, _, _, _ => by omega
 |n + 1, d + 1, t, sv, sw, u, v, K, hd, hu, hv, h => by
  simp only [eqK] at h
  split at h
  ·rename_i k _ _ _ _ k1 a k2 b h1
   obtain ⟨rfl, h⟩ := h
   rw [vr_sc hu, vr_sc hv]
   exact ⟨_, h, run_equalIn_int w d t k1 k a b ((tb.ok _ _ h1).int rfl)⟩
  ·rename_i h1
   rw [vr_sc hu, vr_sc hv]
   exact ⟨_, h, run_equalIn_string w d t _ _ ((tb.ok _ _ h1).string rfl)⟩
  ·rename_i h1
   rw [vr_sc hu, vr_sc hv]
   exact ⟨_, h, run_equalIn_bool' w d t _ _ ((tb.ok _ _ h1).bool rfl)⟩
  ·rename_i fs _ _ _ cs ds h1
   obtain ⟨g1, g2, g3, g4, g5⟩ := (tb.ok _ _ h1).fields rfl rfl
   cases hu with
   | agg hx =>
    cases hv with
    | agg hy =>
     rw [g4] at h
     obtain ⟨r, hK, hr⟩ := eqFs_ok tb w d (fun t sv sw u v K h1 h2 h3 => eqK_ok tb w n d t sv sw u v K (by omega) h1 h2 h3) hx hy _ g5 h
     exact ⟨r, hK, by rw [run_equalIn_agg w d t _ _ g1 g2]; exact hr⟩
  ·exact h.elim
theorem eqK_guard (tb : Tab P) {n : Nat} {t : TypeId} {cs ds : List CV} {K : Bool → Prop} (h : eqK tb.tb n t (.agg cs) (.agg ds) K) : P.eqGuardType P.depth t = false := by
 cases n with
 | zero => exact h.elim
 | succ n =>
  simp only [eqK] at h
  split at h
  ·rename_i h1 h2; simp at h1
  ·rename_i h1 h2; simp at h1
  ·rename_i h1 h2; simp at h1
  ·rename_i h1 _ _; exact ((tb.ok _ _ h1).fields rfl rfl).2.2.1
  ·exact h.elim
end
end Go.Proofs.Ytpdjehnlejjfmaa.D
/- 'valD' answers as the model does. -/
namespace Go.Proofs.Ytpdjehnlejjfmaa.D
open Go.RowKit

section
variable {P : Program} (tb : Tab P) {w0 : World} {M : Rows0} {N : Nat} {V : View} {bs : Loc} {S : St} {a : Act} {w : World}

def Does (P : Program) (V : View) (bs : Loc) (a : Act) (w : World) (o : Oper) (K : SV → Prop) : Prop :=
 ∃ sv v, K sv ∧ VR V bs sv v ∧ (execOp a.eval o).run P w = .ok (.value v) w

theorem run_mapM {α β : Type} (xs : Array α) (g : α → Sem β) (f : α → β) (h : ∀ x ∈ xs, (g x).run P w = .ok (f x) w) : (xs.mapM g).run P w = .ok (xs.map f) w := by
 rw [Array.mapM_eq_mapM_toList]
 have : ∀ l : List α, (∀ x ∈ l, (g x).run P w = .ok (f x) w) → (l.mapM g).run P w = .ok (l.map f) w := by
  intro l
  induction l with
  | nil => intro _; simp
  | cons x l ih => intro hl; simp [hl x (by simp), ih fun y hy => hl y (by simp [hy])]
 simp only [Sem.run_map, this xs.toList (fun x hx => h x (by simpa using hx)), Result.andThen_ok]
 congr 1
 apply Array.ext'
 simp

theorem boundD_ok (hs : Sat1 w0 M N V bs S a w) {x : Option Operand} {d y y' : Nat} {K : Nat → Prop} (hy : y ≤ y') (code : BoundsCode) (h : boundD S x d y K) :
  ∃ n, K n ∧ (x = none → n = d) ∧ (∀ o, x = some o → n ≤ y ∧ (Instr.sliceBound (a.eval o) y' code).run P w = .ok n w) := by
 unfold boundD at h
 cases x with
 | none => exact ⟨d, h, fun _ => rfl, fun o ho => by simp at ho⟩
 | some x =>
  obtain ⟨k, n, he, ⟨h0, h1⟩, hK⟩ := mapInt_ok hs h
  refine ⟨n.toNat, hK, fun h => by simp at h, fun o ho => ?_⟩
  simp at ho; subst ho
  refine ⟨by omega, ?_⟩
  have : 0 ≤ n ∧ n ≤ (y' : Int) := ⟨h0, by omega⟩
  simp [Instr.sliceBound, he, asIntOf, this]

theorem callValD_ok (hs : Sat1 w0 M N V bs S a w) {c : Call} {dst : Option Tmp} {type : TypeId} {pos : String} {after : Array Edge} {guard : Option (Nat × Bool)} {K : SV → Prop}
  (h : callValD tb.tb S c.callee c.args.toList c.argTypes.toList K) : Does P V bs a w ⟨dst, .call c, type, pos, after, guard⟩ K := by
 have hev : ∀ x, VR V bs (S.ev x) (a.eval x) := ev_ok hs.tmps
 obtain ⟨callee, args, argTypes⟩ := c
 simp only at h
 unfold callValD at h
 split at h
 ·split at h
  ·rename_i x t hx ht
   have hx : args = #[x] := by apply Array.ext'; simpa using hx
   have ht : argTypes = #[t] := by apply Array.ext'; simpa using ht
   subst hx; subst ht
   unfold lenD at h
   split at h
   ·rename_i s h1 he
    have e1 := hev x; rw [he] at e1; have e1 := vr_sc e1
    have hu := fun w => run_underlying ((tb.ok _ _ h1).string rfl) w
    exact ⟨_, _, h, .one (.dv (.sc _)), by simp [execOp, resolve, invoke, builtin, Builtin.len_, e1, hu, goInt]⟩
   ·rename_i e _ _ _ es h1 he
    have e1 := hev x; rw [he] at e1; have e1 := vr_one e1
    have hu := fun w => run_underlying ((tb.ok _ _ h1).slice rfl) w
    generalize hx : a.eval x = xv at e1
    refine ⟨_, _, h, .one (.dv (.sc _)), ?_⟩
    cases e1 with
    | dv hrd => cases hrd <;> simp [execOp, resolve, invoke, builtin, Builtin.len_, hx, hu, goInt]
   ·rename_i e _ _ _ p k off n h1 he
    have e1 := hev x; rw [he] at e1; have e1 := vr_one e1
    have hu := fun w => run_underlying ((tb.ok _ _ h1).slice rfl) w
    generalize hx : a.eval x = xv at e1
    refine ⟨_, _, h, .one (.dv (.sc _)), ?_⟩
    cases e1 <;> simp [execOp, resolve, invoke, builtin, Builtin.len_, hx, hu, goInt]
   ·rename_i e _ _ _ h1 he
    have e1 := hev x; rw [he] at e1; have e1 := vr_one e1
    have hu := fun w => run_underlying ((tb.ok _ _ h1).slice rfl) w
    generalize hx : a.eval x = xv at e1
    refine ⟨_, _, h, .one (.dv (.sc _)), ?_⟩
    cases e1; simp [execOp, resolve, invoke, builtin, Builtin.len_, hx, hu, goInt]
   ·rename_i n e _ _ _ _ h1
    have hu := fun w => run_underlying ((tb.ok _ _ h1).array rfl) w
    exact ⟨_, _, h, .one (.dv (.sc _)), by simp [execOp, resolve, invoke, builtin, Builtin.len_, hu, goInt]⟩
   ·exact h.elim
  ·exact h.elim
 ·split at h
  ·rename_i x y hx
   have hx : args = #[x, y] := by apply Array.ext'; simpa using hx
   subst hx
   obtain ⟨k, m, h1, h⟩ := mapInt_ok hs h
   obtain ⟨k', n, h2, h⟩ := mapInt_ok hs h
   exact ⟨_, _, h, .one (.dv (.sc _)), by simp [execOp, resolve, invoke, builtin, Builtin.max_, Builtin.max2, h1, h2]⟩
  ·exact h.elim
 ·split at h
  ·rename_i x y hx
   have hx : args = #[x, y] := by apply Array.ext'; simpa using hx
   subst hx
   obtain ⟨k, m, h1, h⟩ := mapInt_ok hs h
   obtain ⟨k', n, h2, h⟩ := mapInt_ok hs h
   exact ⟨_, _, h, .one (.dv (.sc _)), by simp [execOp, resolve, invoke, builtin, Builtin.min_, Builtin.min2, h1, h2]⟩
  ·exact h.elim
 ·exact h.elim

theorem valD_ok (hs : Sat1 w0 M N V bs S a w) {o : Oper} {K : SV → Prop} (h : valD tb.tb S o.op K) : Does P V bs a w o K := by
  have hev : ∀ x, VR V bs (S.ev x) (a.eval x) := ev_ok hs.tmps
  obtain ⟨dst, op, type, pos, after, guard⟩ := o
  simp only at h
  unfold valD at h
  split at h
  · -- move
    exact ⟨_, _, h, hev _, by simp [execOp]⟩
  · exact ⟨_, _, h, hev _, by simp [execOp]⟩
  · -- pick
    rename_i c x y
    split at h
    · rename_i q he
      have h1 := hev c; rw [he] at h1; have h1 := vr_sc h1
      refine ⟨_, _, h, ?_, by simp [execOp, h1, asBool]; rfl⟩
      rw [pickS_eq]
      cases q
      · simpa using hev y
      · simpa using hev x
    · exact h.elim
  · -- binOp
    rename_i op t x y yt
    split at h
    · rename_i u v h1 h2
      have e1 := hev x; rw [h1] at e1; have e1 := vr_sc e1
      have e2 := hev y; rw [h2] at e2; have e2 := vr_sc e2
      obtain ⟨r, hK, h1c, hr⟩ := binD_run tb h w x y
      refine ⟨_, r, hK, .one (.dv (.sc r h1c)), ?_⟩
      simp only [execOp, e1, e2, Sem.run_bind] at hr ⊢
      simp only [hr, Result.andThen_ok, Sem.run_pure]
    · rename_i cs ds h1 h2
      have e1 := hev x; rw [h1] at e1
      have e2 := hev y; rw [h2] at e2
      generalize hx : a.eval x = xv at e1
      generalize hy : a.eval y = yv at e2
      have hxv : ∃ us : Array Value, xv = .agg us := by cases e1; exact ⟨_, rfl⟩
      have hyv : ∃ us : Array Value, yv = .agg us := by cases e2; exact ⟨_, rfl⟩
      obtain ⟨us, rfl⟩ := hxv
      obtain ⟨vs, rfl⟩ := hyv
      split at h
      · obtain ⟨r, hK, hr⟩ := eqK_ok tb w 20 10000 t _ _ _ _ _ (by omega) e1 e2 h
        exact ⟨_, .bool r, hK, .one (.dv (.sc _)), by simp only [execOp, hx, hy, Sem.run_bind, run_eqGuard_agg w _ t x y _ _ (eqK_guard tb h), Result.andThen_ok, run_eql_struct, hr, Sem.run_pure]⟩
      · obtain ⟨r, hK, hr⟩ := eqK_ok tb w 20 10000 t _ _ _ _ _ (by omega) e1 e2 h
        exact ⟨_, .bool !r, hK, .one (.dv (.sc _)), by simp only [execOp, hx, hy, Sem.run_bind, run_eqGuard_agg w _ t x y _ _ (eqK_guard tb h), Result.andThen_ok, run_neq_struct, hr, Sem.run_pure]⟩
      · exact h.elim
    · exact h.elim
  · -- unOp
    rename_i op t x
    split at h
    · rename_i k n he
      have e1 := hev x; rw [he] at e1; have e1 := vr_sc e1
      exact ⟨_, _, h, .one (.dv (.sc _)), by simp [execOp, e1, Op.unary, Op.intArith]⟩
    · rename_i k n he
      have e1 := hev x; rw [he] at e1; have e1 := vr_sc e1
      exact ⟨_, _, h, .one (.dv (.sc _)), by simp [execOp, e1, Op.unary, Op.intBits, bits]⟩
    · rename_i b he
      have e1 := hev x; rw [he] at e1; have e1 := vr_sc e1
      exact ⟨_, _, h, .one (.dv (.sc _)), by simp [execOp, e1, Op.unary]⟩
    · exact h.elim
  · -- convert
    rename_i src dst x
    split at h
    · rename_i i k _ _ _ k' n h1 h2 he
      have e1 := hev x; rw [he] at e1; have e1 := vr_sc e1
      obtain ⟨d, _, hd⟩ := (tb.ok _ _ h1).run_underlying
      have hu := run_underlying ((tb.ok _ _ h2).int rfl)
      exact ⟨_, _, h, .one (.dv (.sc _)), by simp [execOp, e1, convert, hd, hu, Conv.intToInt]⟩
    · rename_i _ _ _ _ _ _ s h1 h2 he
      have e1 := hev x; rw [he] at e1; have e1 := vr_sc e1
      have hu1 := run_underlying ((tb.ok _ _ h1).string rfl)
      have hu2 := run_underlying ((tb.ok _ _ h2).string rfl)
      exact ⟨_, _, h, .one (.dv (.sc _)), by simp [execOp, e1, convert, hu1, hu2]⟩
    · exact h.elim
  · -- fieldAddr
    rename_i s x f
    split at h
    · rename_i fs _ _ _ c h1 he
      split at h
      · rename_i off ty hf
        split at h
        · rename_i c' hc
          have e1 := hev x; rw [he] at e1; have e1 := vr_one e1
          obtain ⟨b, oo, hv, hcr⟩ := ptrAdd_ok e1 hc
          obtain ⟨fields, hu, hfd⟩ := (tb.ok _ _ h1).struct rfl
          obtain ⟨fd, hfd, ho, ht, i, hi, hi0⟩ := hfd _ _ _ hf
          refine ⟨_, _, h, .one hcr, ?_⟩
          have hu' := fun w => run_underlying hu w
          subst ho; subst ht
          simp [execOp, Instr.fieldAt, hu', hfd, hv, Instr.sureAddr, fieldPlace, sizeOf, typeInfo, hi, hi0]
        · exact h.elim
      · exact h.elim
    · exact h.elim
  · -- field
    rename_i s x f
    split at h
    · rename_i fs _ _ _ cs h1 he
      split at h
      · rename_i off ty hf
        split at h
        · rename_i i hi
          have e1 := hev x; rw [he] at e1
          obtain ⟨fields, hu, hfd⟩ := (tb.ok _ _ h1).struct rfl
          obtain ⟨fd, hfd, ho, ht, _⟩ := hfd _ _ _ hf
          have hu' := fun w => run_underlying hu w
          generalize hx : a.eval x = xv at e1
          cases e1 with
          | agg hcs =>
            obtain ⟨sv, v, hK, hv, hr⟩ := selD_part (tb.ok _ _ hi) hcs h w
            refine ⟨_, _, hK, hv, ?_⟩
            subst ho; subst ht
            simp [execOp, Instr.field, hu', hfd, hx, asAgg, hr]
        · exact h.elim
      · exact h.elim
    · exact h.elim
  · -- indexAddr
    rename_i t x ix
    obtain ⟨k, n, hn, h⟩ := mapInt_ok hs h
    split at h
    · rename_i e _ _ _ es h1 he
      split at h
      · rename_i i hi
        obtain ⟨⟨⟨h0, hlt⟩, hsz⟩, hK⟩ := h
        have e1 := hev x; rw [he] at e1; have e1 := vr_one e1
        have hu := fun w => run_underlying ((tb.ok _ _ h1).slice rfl) w
        have hz := fun w => (tb.ok _ _ hi).run_sizeOf w
        generalize hx : a.eval x = xv at e1
        obtain ⟨ad, cap, rfl, hcap, hinv⟩ := (show Rd V xv (.sl es) by cases e1; assumption).inv
        have hi' : n.toNat < es.length := by omega
        obtain ⟨b, oo, kk, f, rfl, hk, hV, hr⟩ := hinv (by rintro rfl; simp at hi')
        obtain rfl : kk = i.size := by rw [← hsz, ← hk _ hi']; simp [List.getD, hi']
        refine ⟨_, .pointer (some ⟨b, oo + n.toNat * i.size, none⟩), hK, .one ?_, ?_⟩
        · have : es.getD n.toNat [] = es[n.toNat] := by simp [List.getD, hi']
          rw [this]
          have hl := hk _ hi'
          exact .dp (g := f n.toNat) (fun j hj => hV _ j hi' (by omega)) (fun j hj => hr _ j hi' hj)
        · simp [execOp, Instr.indexAt, hn, hx, asIntOf, hu, h0, hlt, hz, add_eq]
      · exact h.elim
    · rename_i e _ _ _ p k' off len h1 he
      split at h
      · rename_i i hi
        obtain ⟨hk, ⟨h0, hlt⟩, hK⟩ := h
        have e1 := hev x; rw [he] at e1; have e1 := vr_one e1
        have hu := fun w => run_underlying ((tb.ok _ _ h1).slice rfl) w
        have hz := fun w => (tb.ok _ _ hi).run_sizeOf w
        generalize hx : a.eval x = xv at e1
        cases e1 with
        | os hb hl hc =>
          rename_i b n' cap
          refine ⟨_, .pointer (some ⟨b, (off + n.toNat) * k' + 0, none⟩), hK, .one (.ep hb), ?_⟩
          simp [execOp, Instr.indexAt, hn, hx, asIntOf, hu, h0, hlt, hz, add_eq, hk, Nat.add_mul]
        | oszero => simp at hlt; omega
      · exact h.elim
    · rename_i m e _ _ _ c h1 he
      split at h
      · rename_i i hi
        obtain ⟨⟨h0, hlt⟩, h⟩ := h
        split at h
        · rename_i c' hc
          have e1 := hev x; rw [he] at e1; have e1 := vr_one e1
          obtain ⟨b, oo, hv, hcr⟩ := ptrAdd_ok e1 hc
          have hu := fun w => run_underlying ((tb.ok _ _ h1).array rfl) w
          have hz := fun w => (tb.ok _ _ hi).run_sizeOf w
          refine ⟨_, _, h, .one hcr, ?_⟩
          simp [execOp, Instr.indexAt, hn, hv, asIntOf, hu, h0, hlt, hz, Instr.sureAddr]
        · exact h.elim
      · exact h.elim
    · exact h.elim
  · -- index
    rename_i t x ix
    obtain ⟨k, n, hn, h⟩ := mapInt_ok hs h
    split at h
    · rename_i m e _ _ _ cs h1 he
      split at h
      · rename_i i hi
        obtain ⟨⟨h0, hlt⟩, h⟩ := h
        have e1 := hev x; rw [he] at e1
        have hu := fun w => run_underlying ((tb.ok _ _ h1).array rfl) w
        have hz := fun w => (tb.ok _ _ hi).run_sizeOf w
        generalize hx : a.eval x = xv at e1
        cases e1 with
        | agg hcs =>
          obtain ⟨sv, v, hK, hv, hr⟩ := selD_part (tb.ok _ _ hi) hcs h w
          refine ⟨_, _, hK, hv, ?_⟩
          simp [execOp, Instr.index, hn, hx, asIntOf, hu, h0, hlt, hz, hr]
      · exact h.elim
    · rename_i m e _ _ _ ds h1 he
      split at h
      · rename_i i hi
        obtain ⟨⟨h0, hlt⟩, h⟩ := h
        have e1 := hev x; rw [he] at e1
        have hu := fun w => run_underlying ((tb.ok _ _ h1).array rfl) w
        have hz := fun w => (tb.ok _ _ hi).run_sizeOf w
        generalize hx : a.eval x = xv at e1
        cases e1 with
        | arr hcs =>
          obtain ⟨sv, v, hK, hv, hr⟩ := selD_part (tb.ok _ _ hi) hcs h w
          refine ⟨_, _, hK, hv, ?_⟩
          simp [execOp, Instr.index, hn, hx, asIntOf, hu, h0, hlt, hz, hr]
      · exact h.elim
    · rename_i _ _ _ s h1 he
      obtain ⟨h0, h⟩ := h
      split at h
      · rename_i b hb
        have e1 := hev x; rw [he] at e1; have e1 := vr_sc e1
        have hu := fun w => run_underlying ((tb.ok _ _ h1).string rfl) w
        refine ⟨_, _, h, .one (.dv (.sc _)), ?_⟩
        simp [execOp, Instr.index, hn, e1, asIntOf, hu, h0, hb]
      · exact h.elim
    · exact h.elim
  · -- slice
    rename_i t x lo hi mx
    split at h
    · rename_i _ _ _ s h1 he
      obtain ⟨hm, h⟩ := h
      subst hm
      have e1 := hev x; rw [he] at e1; have e1 := vr_sc e1
      have hu := fun w => run_underlying ((tb.ok _ _ h1).string rfl) w
      obtain ⟨hh, h, hn1, hs1⟩ := boundD_ok (P := P) hs (Nat.le_refl _) .sliceAlen h
      obtain ⟨l, h, hn2, hs2⟩ := boundD_ok (P := P) hs (Nat.le_refl _) .sliceB h
      refine ⟨_, .string (s.extract l hh), h, .one (.dv (.sc _)), ?_⟩
      cases hi with
      | none =>
        have := hn1 rfl; subst this
        cases lo with
        | none => have := hn2 rfl; subst this; simp [execOp, Instr.sliceAt, Instr.slice, hu, e1, Instr.sliceBounds]
        | some lo => obtain ⟨_, h3⟩ := hs2 lo rfl; simp [execOp, Instr.sliceAt, Instr.slice, hu, e1, Instr.sliceBounds, h3]
      | some hi =>
        obtain ⟨_, h4⟩ := hs1 hi rfl
        cases lo with
        | none => have := hn2 rfl; subst this; simp [execOp, Instr.sliceAt, Instr.slice, hu, e1, Instr.sliceBounds, h4]
        | some lo => obtain ⟨_, h3⟩ := hs2 lo rfl; simp [execOp, Instr.sliceAt, Instr.slice, hu, e1, Instr.sliceBounds, h3, h4]
    · rename_i e _ _ _ es h1 he
      split at h
      · rename_i i hii
        obtain ⟨hk, hm, h⟩ := h
        subst hm
        have e1 := hev x; rw [he] at e1; have e1 := vr_one e1
        have hu := fun w => run_underlying ((tb.ok _ _ h1).slice rfl) w
        have hz := fun w => (tb.ok _ _ hii).run_sizeOf w
        generalize hx : a.eval x = xv at e1
        obtain ⟨ad, cap, rfl, hcap, hinv⟩ := (show Rd V xv (.sl es) by cases e1; assumption).inv_k hk
        obtain ⟨hh, h, hn1, hs1⟩ := boundD_ok (P := P) hs hcap .sliceAcap h
        obtain ⟨l, h, hn2, hs2⟩ := boundD_ok (P := P) hs (Nat.le_refl _) .sliceB h
        have hhl : hh ≤ es.length := by cases hi with | none => rw [hn1 rfl]; exact Nat.le_refl _ | some hi => exact (hs1 hi rfl).1
        have hlh : l ≤ hh := by cases lo with | none => rw [hn2 rfl]; exact Nat.zero_le _ | some lo => exact (hs2 lo rfl).1
        refine ⟨_, .slice (if cap = l then ad else ad.map (·.add (l * i.size))) (hh - l) (cap - l), h, .one (.dv ?_), ?_⟩
        · by_cases hz0 : hh - l = 0
          · have : (es.take hh).drop l = [] := by apply List.drop_eq_nil_of_le; simp; omega
            rw [this, hz0]; exact .nil _ _
          · have hne : cap ≠ l := by omega
            rw [if_neg hne]
            obtain ⟨b, oo, f, rfl, hV, hr⟩ := hinv (by rintro rfl; simp at hhl; omega)
            simp only [Option.map_some, add_eq]
            have hlen : ((es.take hh).drop l).length = hh - l := by simp; omega
            rw [← hlen]
            have hget : ∀ i (hi : i < ((es.take hh).drop l).length), ((es.take hh).drop l)[i] = es[l + i]'(by rw [hlen] at hi; omega) := by
              intro i hi; simp
            refine .sl b (oo + l * i.size) i.size (cap - l) _ (fun i j => f (l + i) j) (by omega) (fun j hj => by rw [hget j hj]; exact hk _ (List.getElem_mem _)) (fun i j hi hj => ?_) (fun i j hi hj => ?_)
            · rw [hlen] at hi
              have := hV (l + i) j (by omega) hj
              rwa [Nat.add_mul, ← Nat.add_assoc] at this
            · have h5 := hget i hi
              have h6 : ((es.take hh).drop l)[i][j] = (es[l + i]'(by rw [hlen] at hi; omega))[j]'(by rw [← h5]; exact hj) := by simp
              rw [h6]; exact hr _ _ _ _
        · cases hi with
          | none =>
            have := hn1 rfl; subst this
            cases lo with
            | none => have := hn2 rfl; subst this; simp [execOp, Instr.sliceAt, Instr.slice, hu, hx, hz, Instr.sliceBounds]
            | some lo => obtain ⟨_, h3⟩ := hs2 lo rfl; simp [execOp, Instr.sliceAt, Instr.slice, hu, hx, hz, Instr.sliceBounds, h3]
          | some hi =>
            obtain ⟨_, h4⟩ := hs1 hi rfl
            cases lo with
            | none => have := hn2 rfl; subst this; simp [execOp, Instr.sliceAt, Instr.slice, hu, hx, hz, Instr.sliceBounds, h4]
            | some lo => obtain ⟨_, h3⟩ := hs2 lo rfl; simp [execOp, Instr.sliceAt, Instr.slice, hu, hx, hz, Instr.sliceBounds, h3, h4]
      · exact h.elim
    · rename_i e _ _ _ p k off len h1 he
      split at h
      · rename_i i hii
        obtain ⟨hk, hm, h⟩ := h
        subst hm
        have e1 := hev x; rw [he] at e1; have e1 := vr_one e1
        have hu := fun w => run_underlying ((tb.ok _ _ h1).slice rfl) w
        have hz := fun w => (tb.ok _ _ hii).run_sizeOf w
        generalize hx : a.eval x = xv at e1
        obtain ⟨ad, cap, rfl, hcap⟩ : ∃ ad cap, xv = .slice ad len cap ∧ len ≤ cap := by
          cases e1 with
          | os hb hl hc => exact ⟨_, _, rfl, hl⟩
          | oszero => exact ⟨_, _, rfl, Nat.le_refl _⟩
        obtain ⟨hh, h, hn1, hs1⟩ := boundD_ok (P := P) hs hcap .sliceAcap h
        obtain ⟨l, h, hn2, hs2⟩ := boundD_ok (P := P) hs (Nat.le_refl _) .sliceB h
        have hhl : hh ≤ len := by cases hi with | none => rw [hn1 rfl]; exact Nat.le_refl _ | some hi => exact (hs1 hi rfl).1
        have hlh : l ≤ hh := by cases lo with | none => rw [hn2 rfl]; exact Nat.zero_le _ | some lo => exact (hs2 lo rfl).1
        refine ⟨_, .slice (if cap = l then ad else ad.map (·.add (l * i.size))) (hh - l) (cap - l), h, .one ?_, ?_⟩
        · by_cases hz0 : cap = l
          · have e0 : hh - l = 0 := by omega
            have e2 : cap - l = 0 := by omega
            rw [e0, e2]; exact .oszero
          · rw [if_neg hz0]
            cases e1 with
            | os hb hl hc =>
              simp only [Option.map_some, add_eq, hk, ← Nat.add_mul]
              exact .os hb (by omega) (by have : off + l + (cap - l) = off + cap := by omega
                                          rw [this]; exact hc)
            | oszero => omega
        · cases hi with
          | none =>
            have := hn1 rfl; subst this
            cases lo with
            | none => have := hn2 rfl; subst this; simp [execOp, Instr.sliceAt, Instr.slice, hu, hx, hz, Instr.sliceBounds]
            | some lo => obtain ⟨_, h3⟩ := hs2 lo rfl; simp [execOp, Instr.sliceAt, Instr.slice, hu, hx, hz, Instr.sliceBounds, h3]
          | some hi =>
            obtain ⟨_, h4⟩ := hs1 hi rfl
            cases lo with
            | none => have := hn2 rfl; subst this; simp [execOp, Instr.sliceAt, Instr.slice, hu, hx, hz, Instr.sliceBounds, h4]
            | some lo => obtain ⟨_, h3⟩ := hs2 lo rfl; simp [execOp, Instr.sliceAt, Instr.slice, hu, hx, hz, Instr.sliceBounds, h3, h4]
      · exact h.elim
    · rename_i m e _ _ _ _ p off h1 he
      split at h
      · rename_i i hii
        obtain ⟨⟨rfl, rfl, rfl⟩, h⟩ := h
        have e1 := hev x; rw [he] at e1; have e1 := vr_one e1
        have hu := fun w => run_underlying ((tb.ok _ _ h1).array rfl) w
        have hz := fun w => (tb.ok _ _ hii).run_sizeOf w
        generalize hx : a.eval x = xv at e1
        cases e1 with
        | @ptr _ _ b n hb =>
          refine ⟨_, .slice (some ⟨b, off, none⟩) m m, h, .one (.sb hb), ?_⟩
          simp [execOp, Instr.sliceAt, hu, hx, hz, Instr.sliceBounds, Instr.sureAddr, add_eq]
      · exact h.elim
    · exact h.elim
  · -- extract
    rename_i x ix
    split at h
    · rename_i vs he
      have e1 := hev x; rw [he] at e1
      generalize hx : a.eval x = xv at e1
      cases e1 with
      | @tup _ us hl hh =>
        have get : ∀ b cs, vs[ix]? = some (b, cs) → ∃ u, us[ix]? = some u := by
          intro b cs hvs
          obtain ⟨hlt, _⟩ := List.getElem?_eq_some_iff.1 hvs
          exact ⟨us[ix]'(by omega), List.getElem?_eq_getElem _⟩
        split at h
        · rename_i cs hvs
          obtain ⟨u, hu⟩ := get _ _ hvs
          rcases hh ix _ _ u hvs hu with ⟨_, us', rfl, hcr⟩ | ⟨hb, _⟩
          · obtain ⟨sv, h, hv⟩ := aggD_ok hcr h
            exact ⟨sv, _, h, hv, by simp [execOp, hx, Instr.extract, hu]⟩
          · simp at hb
        · rename_i c hvs
          obtain ⟨u, hu⟩ := get _ _ hvs
          rcases hh ix _ _ u hvs hu with ⟨hb, _⟩ | ⟨_, c', hc', hcr⟩
          · simp at hb
          · simp at hc'; subst hc'
            exact ⟨_, _, h, .one hcr, by simp [execOp, hx, Instr.extract, hu]⟩
        · exact h.elim
    · exact h.elim
  · -- nilCheck
    rename_i x
    split at h
    · rename_i p oo he
      have e1 := hev x; rw [he] at e1
      refine ⟨_, _, h, e1, ?_⟩
      generalize hx : a.eval x = xv at e1
      cases vr_one e1; simp [execOp, hx]
    · rename_i he
      have e1 := hev x; rw [he] at e1
      refine ⟨_, _, h, e1, ?_⟩
      generalize hx : a.eval x = xv at e1
      cases vr_one e1; simp [execOp, hx]
    · rename_i he
      have e1 := hev x; rw [he] at e1
      refine ⟨_, _, h, e1, ?_⟩
      generalize hx : a.eval x = xv at e1
      cases vr_one e1; simp [execOp, hx]
    · rename_i he
      have e1 := hev x; rw [he] at e1
      have e2 := vr_sc e1
      exact ⟨_, _, h, e1, by simp [execOp, e2]⟩
    · exact h.elim
  · -- build
    rename_i t parts
    have hparts : ∀ (i : Nat) j sv u, (parts.toList.map fun p => (p.1, S.ev p.2))[i]? = some (j, sv) → ((parts.map fun p => (p.1, a.eval p.2)).toList)[i]? = some u → u.1 = j ∧ VR V bs sv u.2 := by
      intro i j sv u h1 h2
      simp only [Array.toList_map, List.getElem?_map, Option.map_eq_some_iff] at h1 h2
      obtain ⟨p, hp, h1⟩ := h1
      obtain ⟨q, hq, rfl⟩ := h2
      rw [hp] at hq; simp at hq; subst hq
      simp at h1; obtain ⟨rfl, rfl⟩ := h1
      exact ⟨rfl, hev _⟩
    split at h
    · rename_i fs sz by_ z _ h1
      obtain ⟨hz, h⟩ := h
      split at h
      · rename_i cs hf
        have hT := tb.ok _ _ h1
        obtain ⟨fields, hu, hfd⟩ := hT.struct rfl
        obtain ⟨zv, hzr, hzc, _⟩ := hT.run_zero hz w
        have hsizes : ∀ fd ∈ fields, (sizeOf fd.type).run P w = .ok (P.cellsOf fd.type) w := by
          intro fd hmem
          obtain ⟨d, hd, hk⟩ := hT.desc
          rw [hu] at hd; simp at hd; subst hd
          simp only [TK.ok, Bool.and_eq_true, Array.all_eq_true] at hk
          obtain ⟨j, hj, rfl⟩ := Array.mem_iff_getElem.1 hmem
          have := hk.2 j hj
          split at this
          · rename_i info hi; simp [sizeOf, typeInfo, hi, Program.cellsOf]
          · simp at this
        have hmap := run_mapM (P := P) (w := w) fields (fun f => do pure (f.offset, ← sizeOf f.type)) (fun f => (f.offset, P.cellsOf f.type)) (fun f hm => by simp [hsizes f hm])
        obtain ⟨us', h3, h4⟩ := fillC_ok _ _ _ (fun i => (fields.map fun f => (f.offset, P.cellsOf f.type))[i]?) _ _ (z.map Z.val) (fun i x hx => by
          simp only [fieldPlaceD] at hx
          split at hx
          · rename_i off ty hfs
            split at hx
            · rename_i i' hi'
              simp at hx; subst hx
              obtain ⟨fd, h5, rfl, rfl, _⟩ := hfd _ _ _ hfs
              obtain ⟨info, h6, h7, _⟩ := (tb.ok _ _ hi').info
              simp [h5, Program.cellsOf, h6, h7]
            · simp at hx
          · simp at hx) (zeros_cr V bs z) (by simp) hparts hf
        refine ⟨_, _, h, .agg h4, ?_⟩
        have hzc' : zv.cells = (z.map Z.val).toArray := by rw [← hzc]
        have hu' := run_underlying hu w
        simp only [execOp, Instr.build, Sem.run_bind, hzr, Result.andThen_ok, hu', hmap, hzc']
        have h3' : Instr.fill (fun x => (fields.map fun f => (f.offset, P.cellsOf f.type))[x]?) (z.map Z.val).toArray (parts.map fun p => (p.1, a.eval p.2)).toList = some us'.toArray := h3
        simp only [h3', Sem.run_pure, Result.andThen_ok]
      · exact h.elim
    · rename_i n e sz by_ z _ h1
      split at h
      · rename_i i hi
        obtain ⟨hz, h⟩ := h
        split at h
        · rename_i cs hf
          have hT := tb.ok _ _ h1
          obtain ⟨zv, hzr, hzc, _⟩ := hT.run_zero hz w
          obtain ⟨us', h3, h4⟩ := fillC_ok _ _ _ (fun j => some (j * i.size, i.size)) _ _ (z.map Z.val) (fun i x hx => hx) (zeros_cr V bs z) (by simp) hparts hf
          refine ⟨_, _, h, .agg h4, ?_⟩
          have hzc' : zv.cells = (z.map Z.val).toArray := by rw [← hzc]
          have hu' := run_underlying (hT.array rfl) w
          have hs' := (tb.ok _ _ hi).run_sizeOf w
          simp only [execOp, Instr.build, Sem.run_bind, hzr, Result.andThen_ok, hu', hs', hzc']
          have h3' : Instr.fill (fun j => some (j * i.size, i.size)) (z.map Z.val).toArray (parts.map fun p => (p.1, a.eval p.2)).toList = some us'.toArray := h3
          simp only [h3', Sem.run_pure, Result.andThen_ok]
        · exact h.elim
      · exact h.elim
    · exact h.elim
  · -- load
    rename_i t x
    split at h
    · rename_i i c hi he
      split at h
      · rename_i cs oo hc
        have e1 := hev x; rw [he] at e1; have e1 := vr_one e1
        obtain ⟨b, base, hv, hcell⟩ := ptrCells_ok hs e1 hc
        obtain ⟨sv, v, hK, hvr, hr⟩ := loadVar_ok (tb.ok _ _ hi) hcell h
        exact ⟨_, _, hK, hvr, by simp [execOp, Instr.loadAt, hv, Instr.sureAddr, hr]⟩
      · exact h.elim
    · exact h.elim
  · -- call
    rename_i c
    exact callValD_ok tb hs h
  · exact h.elim
end
end Go.Proofs.Ytpdjehnlejjfmaa.D
/- New rows, and rows written to. -/
namespace Go.Proofs.Ytpdjehnlejjfmaa.D
open Go.RowKit

section
variable {P : Program} {w0 : World} {M : Rows0} {N : Nat} {V : View} {bs : Loc} {S : St} {a : Act} {w : World}

theorem World.cell_of_block {w w' : World} {x : Addr} (h : w'.heap[x.block]? = w.heap[x.block]?) : w'.cell? x = w.cell? x := World.cell?_of_block (w := w) h
theorem World.frozen_of_block {w w' : World} {x : Addr} (h : w'.heap[x.block]? = w.heap[x.block]?) : w'.frozen? x = w.frozen? x := World.frozen?_of_block (w := w) h

theorem InSat.mono {V V' : View} {w w' : World} {b n k : Nat} {es : List (List DV)} (hV : V.le V') (hc : w'.heap[b]? = w.heap[b]?) (h : InSat V w b n k es) : InSat V' w' b n k es := by
 obtain ⟨h1, h2, h3, h4⟩ := h
 have e1 : ∀ j, w'.cell? ⟨b, j, none⟩ = w.cell? ⟨b, j, none⟩ := fun j => World.cell_of_block (x := ⟨b, j, none⟩) hc
 have e2 : ∀ j, w'.frozen? ⟨b, j, none⟩ = w.frozen? ⟨b, j, none⟩ := fun j => World.frozen_of_block (x := ⟨b, j, none⟩) hc
 exact ⟨h1, fun j hj => by rw [e1, e2]; exact h2 j hj, h3, fun i j hi hj => by
  obtain ⟨v, h5, h6⟩ := h4 i j hi hj
  exact ⟨v, by rw [e1]; exact h5, h6.mono hV⟩⟩
theorem CellR.mono {V V' : View} {bs bs' : Loc} {w w' : World} {nm nm' : Nm} {v : Value} {d : DV} (hV : V.le V') (hb : bs' nm' = bs nm) (hc : ∀ b n, bs nm = some (b, n) → w'.heap[b]? = w.heap[b]?) (h : CellR V bs w nm v d) :
  CellR V' bs' w' nm' v d := by
 cases h with
 | rd h => exact .rd (h.mono hV)
 | no _ h => exact .no _ h
 | ow h1 h2 h3 h4 h5 => exact .ow (hb.trans h1) h2 h3 h4 (h5.mono hV (hc _ _ h1))
 | ownil a k h => exact .ownil a k (hb.trans h)
theorem RowSat.mono {V V' : View} {bs bs' : Loc} {w w' : World} {p b n : Nat} {r : Row} (hV : V.le V') (hb : ∀ p x, bs p = some x → bs' p = some x) (he : ∀ i j, bs' (.h p i j) = bs (.h p i j))
  (hc : w'.heap[b]? = w.heap[b]?) (hh : ∀ i j b n, bs (.h p i j) = some (b, n) → w'.heap[b]? = w.heap[b]?) (h : RowSat V bs w p b n r) : RowSat V' bs' w' p b n r := by
 have e1 : ∀ j, w'.cell? ⟨b, j, none⟩ = w.cell? ⟨b, j, none⟩ := fun j => World.cell_of_block (x := ⟨b, j, none⟩) hc
 have e2 : ∀ j, w'.frozen? ⟨b, j, none⟩ = w.frozen? ⟨b, j, none⟩ := fun j => World.frozen_of_block (x := ⟨b, j, none⟩) hc
 cases r with
 | box cs =>
  obtain ⟨h1, h2, h0, vs, h3, h4⟩ := h
  exact ⟨h1, fun j hj => by rw [e2]; exact h2 j hj, fun i j => (he i j).trans (h0 i j), vs, h3.mono hV hb, fun j v hj => by rw [e1]; exact h4 j v hj⟩
 | own k es =>
  obtain ⟨h1, h2, h3, h4⟩ := h
  exact ⟨h1, fun j hj => by rw [e1, e2]; exact h2 j hj, h3, fun i j hi hj => by
   obtain ⟨v, h5, h6⟩ := h4 i j hi hj
   exact ⟨v, by rw [e1]; exact h5, h6.mono hV (he i j) (hh i j)⟩⟩

theorem Sat1.drew (h : Sat1 w0 M N V bs S a w) (n : Nat) : Sat1 w0 M N V bs S a { w with drawn := n } :=
 ⟨⟨h.keep.os, h.keep.tape, h.keep.output, h.keep.size, h.keep.block⟩, h.view, h.apart, h.inj, h.fresh, h.par, h.ml, h.dom, fun p r hp => (h.rows p r hp).imp (fun ⟨b, m, h1, h2⟩ => ⟨b, m, h1, RowSat.mono (w := w) (w' := { w with drawn := n }) (View.le.refl V) (fun _ _ h => h) (fun _ _ => rfl) rfl (fun _ _ _ _ _ => rfl) h2⟩) id, h.tmps, h.defers, h.nt⟩

theorem Sat1.alloc (h : Sat1 w0 M N V bs S a w) {p : Nat} (hp : S.L p = none) (hp2 : 1000 ≤ p) {r : Row} {o : Obj} {n : Nat}
  (hr : RowSat V bs (w.alloc o) p w.heap.size n r) : Sat1 w0 M N V (upd bs (.v p) (some (w.heap.size, n))) { S with L := upd S.L p (some r) } a (w.alloc o) := by
 have hbp := (h.dom p hp).1
 have hb : ∀ q x, bs q = some x → upd bs (.v p) (some (w.heap.size, n)) q = some x := fun q x hq => by
  rw [upd_ne]; exact hq
  rintro rfl; rw [hbp] at hq; simp at hq
 have hold : ∀ k, k < w.heap.size → (w.alloc o).heap[k]? = w.heap[k]? := fun k hk => Below.heap_alloc w o k hk
 have hbv : ∀ q : Nat, q ≠ p → upd bs (.v p) (some (w.heap.size, n)) (.v q) = bs (.v q) := fun q hq => upd_ne _ _ _ _ (by simpa using hq)
 have hbh : ∀ q i j, upd bs (.v p) (some (w.heap.size, n)) (.h q i j) = bs (.h q i j) := fun q i j => upd_ne _ _ _ _ (by simp)
 refine ⟨h.keep.trans ⟨rfl, rfl, rfl, by simp, fun k hk _ => hold k hk⟩, fun x v hx => ?_, fun x v q b m hx hq => ?_, ?_, ?_, fun q r' hq hlt hmv => ?_, h.ml, ?_, ?_, fun t => (h.tmps t).mono (View.le.refl V) hb, h.defers, h.nt⟩
 ·have := h.view x v hx
  rw [World.cell_of_block (hold _ (World.block_lt_of_cell? _ _ this))]; exact this
 ·by_cases hqp : q = .v p
  ·subst hqp; simp at hq; obtain ⟨rfl, rfl⟩ := hq
   have := World.block_lt_of_cell? _ _ (h.view x v hx); omega
  ·rw [upd_ne _ _ _ _ hqp] at hq; exact h.apart x v q b m hx hq
 ·intro q q' b m m' h1 h2
  by_cases e1 : q = .v p <;> by_cases e2 : q' = .v p
  ·rw [e1, e2]
  ·subst e1; simp at h1; rw [upd_ne _ _ _ _ e2] at h2
   have := (h.fresh _ _ _ h2).2; omega
  ·subst e2; simp at h2; rw [upd_ne _ _ _ _ e1] at h1
   have := (h.fresh _ _ _ h1).2; omega
  ·rw [upd_ne _ _ _ _ e1] at h1; rw [upd_ne _ _ _ _ e2] at h2; exact h.inj _ _ _ _ _ h1 h2
 ·intro q b m hq
  by_cases e1 : q = .v p
  ·subst e1; simp at hq; obtain ⟨rfl, rfl⟩ := hq
   exact ⟨.inl h.keep.size, by simp⟩
  ·rw [upd_ne _ _ _ _ e1] at hq
   have := h.fresh _ _ _ hq
   exact ⟨this.1, by simp; omega⟩
 ·have e1 : q ≠ p := by have := h.ml.1; omega
  rw [hbv _ e1]; simp only [upd_ne _ _ _ _ e1] at hq
  exact h.par q r' hq hlt hmv
 ·intro q hq
  by_cases e1 : q = p
  ·subst e1; simp at hq
  ·rw [hbv _ e1]; simp only [hbh]; simp only [upd_ne _ _ _ _ e1] at hq; exact h.dom q hq
 ·intro q r' hq
  by_cases e1 : q = p
  ·subst e1; simp at hq; subst hq
   exact .inl ⟨_, _, by simp, hr.mono (View.le.refl V) hb (fun i j => hbh q i j) rfl (fun _ _ _ _ _ => rfl)⟩
  ·rw [hbv _ e1]; simp only [upd_ne _ _ _ _ e1] at hq
   exact (h.rows q r' hq).imp (fun ⟨b, m, h1, h2⟩ => ⟨b, m, h1, h2.mono (View.le.refl V) hb (fun i j => hbh q i j) (hold _ (h.fresh _ _ _ h1).2) (fun i j b n h3 => hold _ (h.fresh _ _ _ h3).2)⟩) id

structure Wrote (b : Nat) (w w' : World) : Prop where
 os : w'.os = w.os
 tape : w'.tape = w.tape
 output : w'.output = w.output
 size : w'.heap.size = w.heap.size
 other : ∀ k, k ≠ b → w'.heap[k]? = w.heap[k]?
 frozen : ∀ x, w'.frozen? x = w.frozen? x

theorem run_storeCells : ∀ (us : List Value) (w : World) (b o i : Nat), (∀ j, j < us.length → (w.cell? ⟨b, o + (i + j), none⟩).isSome ∧ w.frozen? ⟨b, o + (i + j), none⟩ = false) → (∀ u ∈ us, u.oneCell' = true) →
  ∃ w', (storeCells ⟨b, o, none⟩ us i).run P w = .ok () w' ∧ Wrote b w w' ∧ (∀ j u, us[j]? = some u → w'.cell? ⟨b, o + (i + j), none⟩ = some u) ∧
   ∀ j, (j < o + i ∨ o + i + us.length ≤ j) → w'.cell? ⟨b, j, none⟩ = w.cell? ⟨b, j, none⟩
 | [], w, b, o, i, _, _ => ⟨w, by simp [storeCells], ⟨rfl, rfl, rfl, rfl, fun _ _ => rfl, fun _ => rfl⟩, fun j u h => by simp at h, fun _ _ => rfl⟩
 |u :: us, w, b, o, i, hex, hone => by
  obtain ⟨h1, h2⟩ := hex 0 (by simp)
  simp only [Nat.add_zero] at h1 h2
  obtain ⟨old, hold⟩ := Option.isSome_iff_exists.1 h1
  have hsame := World.cell?_setCell_same w ⟨b, o + i, none⟩ u hold
  have hoth : ∀ j, j ≠ o + i → (w.setCell ⟨b, o + i, none⟩ u).cell? ⟨b, j, none⟩ = w.cell? ⟨b, j, none⟩ := fun j hj =>
   World.cell?_setCell_other _ _ _ _ (by intro h; injection h with _ h; exact hj h.symm)
  obtain ⟨w', h3, h4, h5, h6⟩ := run_storeCells us (w.setCell ⟨b, o + i, none⟩ u) b o (i + 1) (fun j hj => by
   have := hex (j + 1) (by simp; omega)
   rw [show o + (i + 1 + j) = o + (i + (j + 1)) by omega]
   rw [hoth _ (by omega), World.frozen?_setCell]; exact this) (fun x hx => hone x (by simp [hx]))
  refine ⟨w', ?_, ?_, ?_, ?_⟩
  ·simp only [storeCells, Sem.run_bind, add_eq]
   rw [run_store P w _ u _ (hone u (by simp))]
   simp only [hold, h2]
   simpa using h3
  ·refine ⟨h4.os, h4.tape, h4.output, by rw [h4.size]; simp, fun k hk => ?_, fun x => by rw [h4.frozen, World.frozen?_setCell]⟩
   rw [h4.other k hk]; exact Below.heap_setCell _ _ _ _ hk
  ·intro j x hj
   cases j with
   | zero =>
    simp at hj; subst hj
    rw [h6 _ (.inl (by omega))]; simpa using hsame
   | succ j =>
    have := h5 j x (by simpa using hj)
    rwa [show o + (i + 1 + j) = o + (i + (j + 1)) by omega] at this
  ·intro j hj
   rw [h6 j (by simp only [List.length_cons] at hj; omega)]
   exact hoth j (by simp only [List.length_cons] at hj; omega)

theorem Sat1.wrote (h : Sat1 w0 M N V bs S a w) {nm : Nm} {b n : Nat} (hb : bs nm = some (b, n)) {w' : World} (hw : Wrote b w w') {r : Row} (hr : ∃ b0 n0, bs (.v nm.top) = some (b0, n0) ∧ RowSat V bs w' nm.top b0 n0 r) :
  Sat1 w0 M N V bs { S with L := upd S.L nm.top (some r) } a w' := by
 have hf := h.fresh _ _ _ hb
 have hne : ∀ q b' n', bs q = some (b', n') → q ≠ nm → w'.heap[b']? = w.heap[b']? := fun q b' n' hq hn => hw.other _ (by rintro rfl; exact hn (h.inj _ _ _ _ _ hq hb))
 refine ⟨⟨hw.os.trans h.keep.os, hw.tape.trans h.keep.tape, hw.output.trans h.keep.output, by rw [hw.size]; exact h.keep.size, fun k hk hm => ?_⟩, fun x v hx => ?_, h.apart, h.inj, fun q c m hq => ?_, fun q r' hq hlt hmv => ?_, h.ml, fun q hq => ?_, fun q r' hq => ?_, h.tmps, h.defers, h.nt⟩
 ·have hne : k ≠ b := by
   rintro rfl
   rcases hf.1 with h1 | ⟨q, m, h1, _⟩
   ·omega
   ·exact hm (has_of h1)
  rw [hw.other k hne]; exact h.keep.block k hk hm
 ·rw [World.cell_of_block (hw.other _ (h.apart _ _ _ _ _ hx hb))]; exact h.view x v hx
 ·rw [hw.size]; exact h.fresh _ _ _ hq
 ·by_cases e1 : q = nm.top
  ·subst e1
   have hn : S.L nm.top ≠ none := fun hn => by
    obtain ⟨g1, g2⟩ := h.dom _ hn
    cases nm with
    | v p => rw [show bs (.v p) = none from g1] at hb; simp at hb
    | h p i j => rw [show bs (.h p i j) = none from g2 i j] at hb; simp at hb
   obtain ⟨r0, hr0⟩ := Option.ne_none_iff_exists'.1 hn
   exact h.par _ r0 hr0 hlt hmv
  ·simp only [upd_ne _ _ _ _ e1] at hq; exact h.par q r' hq hlt hmv
 ·by_cases e1 : q = nm.top
  ·subst e1; simp at hq
  ·simp only [upd_ne _ _ _ _ e1] at hq; exact h.dom q hq
 ·by_cases e1 : q = nm.top
  ·subst e1; simp at hq; subst hq; exact .inl hr
  ·simp only [upd_ne _ _ _ _ e1] at hq
   refine (h.rows q r' hq).imp (fun ⟨c, m, h1, h2⟩ => ⟨c, m, h1, ?_⟩) id
   exact h2.mono (View.le.refl V) (fun _ _ h => h) (fun _ _ => rfl) (hne _ _ _ h1 (by rintro rfl; exact e1 rfl)) (fun i j b n h3 => hne _ _ _ h3 (by rintro rfl; exact e1 rfl))
end
end Go.Proofs.Ytpdjehnlejjfmaa.D
/- Slots and rows whose references are struck; rows that get other names; rows that are read from now on. -/
namespace Go.Proofs.Ytpdjehnlejjfmaa.D
open Go.RowKit

def mapS (f : CV → CV) : SV → SV
 | .one c => .one (f c)
 | .agg cs => .agg (cs.map f)
 | .tup vs => .tup (vs.map fun p => (p.1, p.2.map f))
 | .arr ds => .arr ds
def mapR (f : CV → CV) : Row → Row
 | .box cs => .box (cs.map f)
 | .own k es => .own k es

def killC (p : Nat) : CV → CV
 | .os q k off len => if q.top = p then .dead else .os q k off len
 | .ptr q o => if q = p then .dead else .ptr q o
 | .ep q k i f => if q.top = p then .dead else .ep q k i f
 | .sb q o k n => if q = p then .dead else .sb q o k n
 | c => c
def killHC (p : Nat) : CV → CV
 | .os (.h q i j) k off len => if q = p then .dead else .os (.h q i j) k off len
 | .ep (.h q i j) k n f => if q = p then .dead else .ep (.h q i j) k n f
 | c => c
def St.mapC (S : St) (f : CV → CV) : St := { S with T := fun t => mapS f (S.T t), L := fun q => (S.L q).map (mapR f) }
def St.kill (S : St) (p : Nat) : St := S.mapC (killC p)
def St.killH (S : St) (p : Nat) : St := S.mapC (killHC p)

def fzD : DV → Option DV
 | .no => none
 | .ow _ off len es => some (.sl ((es.drop off).take len))
 | d => some d
def Fz (es xs : List (List DV)) : Prop := xs.map (fun e => e.map some) = es.map (fun e => e.map fzD)
theorem Fz.length {es xs : List (List DV)} (h : Fz es xs) : xs.length = es.length := by
 have := congrArg List.length h; simpa using this
theorem Fz.len {es xs : List (List DV)} (h : Fz es xs) {i : Nat} (h1 : i < es.length) (h2 : i < xs.length) : xs[i].length = es[i].length := by
 have := congrArg (fun l => (l[i]?).map List.length) h
 simp [h1, h2] at this; exact this
theorem Fz.get {es xs : List (List DV)} (h : Fz es xs) {i j : Nat} (h1 : i < es.length) (h2 : i < xs.length) (h3 : j < es[i].length) (h4 : j < xs[i].length) : fzD es[i][j] = some xs[i][j] := by
 have := congrArg (fun l => (l[i]?).bind (·[j]?)) h
 simp [h1, h2, h3, h4] at this; exact this.symm
theorem Fz.nil : Fz [] [] := rfl
theorem Fz.cons {e x : List DV} {es xs : List (List DV)} (h : x.map some = e.map fzD) (t : Fz es xs) : Fz (e :: es) (x :: xs) := by simp only [Fz, List.map_cons]; rw [h, t]
theorem Fz.map {α : Type} (l : List α) (f g : α → List DV) (h : ∀ a, (g a).map some = (f a).map fzD) : Fz (l.map f) (l.map g) := by
 simp only [Fz, List.map_map]
 exact List.map_congr_left fun a _ => h a
theorem Fz.append {a b c d : List (List DV)} (h : Fz a b) (k : Fz c d) : Fz (a ++ c) (b ++ d) := by simp only [Fz, List.map_append]; rw [h, k]

section
variable {P : Program} {w0 : World} {M : Rows0} {N : Nat} {V : View} {bs : Loc} {S : St} {a : Act} {w : World}

theorem CRs.map {V V' : View} {bs bs' : Loc} {f : CV → CV} (hf : ∀ c v, CR V bs c v → CR V' bs' (f c) v) {cs : List CV} {vs : List Value} (h : CRs V bs cs vs) : CRs V' bs' (cs.map f) vs := by
 induction h with
 | nil => exact .nil
 | cons h _ ih => exact .cons (hf _ _ h) ih
theorem VR.map {V V' : View} {bs bs' : Loc} {f : CV → CV} (hf : ∀ c v, CR V bs c v → CR V' bs' (f c) v) {s : SV} {v : Value} (h : VR V bs s v) (hd : ∀ d, f (.dv d) = .dv d := by intro d; rfl) : VR V' bs' (mapS f s) v := by
 cases h with
 | one h => exact .one (hf _ _ h)
 | agg h => exact .agg (h.map hf)
 | @arr ds vs h =>
  refine .arr ?_
  have : ∀ {ds : List DV} {vs : List Value}, CRs V bs (ds.map .dv) vs → CRs V' bs' (ds.map .dv) vs := by
   intro ds
   induction ds with
   | nil => intro vs h; cases h; exact .nil
   | cons d ds ih =>
    intro vs h
    cases h with
    | cons h t => exact .cons (hd d ▸ hf _ _ h) (ih t)
  exact this h
 | tup hl h =>
  refine .tup (by simp [hl]) fun i b cs u h1 h2 => ?_
  simp only [List.getElem?_map, Option.map_eq_some_iff] at h1
  obtain ⟨⟨b', cs'⟩, h1, h3⟩ := h1
  simp at h3; obtain ⟨rfl, rfl⟩ := h3
  refine (h i _ _ u h1 h2).imp (fun ⟨e, us, e2, r⟩ => ⟨e, us, e2, r.map hf⟩) (fun ⟨e, c, e2, r⟩ => ⟨e, f c, by simp [e2], hf _ _ r⟩)
theorem RowSat.map {V V' : View} {bs bs' : Loc} {f : CV → CV} (hV : V.le V') (hf : ∀ c v, CR V bs c v → CR V' bs' (f c) v) {w : World} {p b n : Nat} (hh : ∀ i j, bs' (.h p i j) = bs (.h p i j)) {r : Row} (h : RowSat V bs w p b n r) :
  RowSat V' bs' w p b n (mapR f r) := by
 cases r with
 | box cs =>
  obtain ⟨h1, h2, h0, vs, h3, h4⟩ := h
  exact ⟨by simpa using h1, h2, fun i j => (hh i j).trans (h0 i j), vs, h3.map hf, h4⟩
 | own k es =>
  obtain ⟨h1, h2, h3, h4⟩ := h
  exact ⟨h1, h2, h3, fun i j hi hj => by obtain ⟨v, h5, h6⟩ := h4 i j hi hj; exact ⟨v, h5, h6.mono hV (hh i j) (fun _ _ _ => rfl)⟩⟩

theorem killC_ok {V V' : View} {bs bs' : Loc} {p : Nat} (hV : V.le V') (hb : ∀ q, q.top ≠ p → ∀ x, bs q = some x → bs' q = some x) {c : CV} {v : Value} (h : CR V bs c v) : CR V' bs' (killC p c) v := by
 cases h with
 | dead => exact .dead _
 | nil => exact .nil
 | dv h => exact .dv (h.mono hV)
 | @os q k off len b n cap h hl hc =>
  simp only [killC]; split
  ·exact .dead _
  ·rename_i hq; exact .os (hb q hq _ h) hl hc
 | oszero => simp only [killC]; split; exact .dead _; exact .oszero
 | @ptr q off b n h =>
  simp only [killC]; split
  ·exact .dead _
  ·rename_i hq; exact .ptr (hb (.v q) hq _ h)
 | @ep q k i f b n h =>
  simp only [killC]; split
  ·exact .dead _
  ·rename_i hq; exact .ep (hb q hq _ h)
 | @sb q o k n b m h =>
  simp only [killC]; split
  ·exact .dead _
  ·rename_i hq; exact .sb (hb (.v q) hq _ h)
 | dp h1 h2 => exact .dp (fun j hj => hV _ _ (h1 j hj)) (fun j hj => (h2 j hj).mono hV)
theorem killHC_ok {V V' : View} {bs bs' : Loc} {p : Nat} (hV : V.le V') (hb : ∀ q, (∀ i j, q ≠ .h p i j) → ∀ x, bs q = some x → bs' q = some x) {c : CV} {v : Value} (h : CR V bs c v) : CR V' bs' (killHC p c) v := by
 cases h with
 | dead => exact .dead _
 | nil => exact .nil
 | dv h => exact .dv (h.mono hV)
 | @os q k off len b n cap h hl hc =>
  cases q with
  | v q => exact .os (hb _ (by simp) _ h) hl hc
  | h q i j =>
   simp only [killHC]; split
   ·exact .dead _
   ·rename_i hq; exact .os (hb _ (by rintro i j ⟨⟩; exact hq rfl) _ h) hl hc
 | @oszero q =>
  cases q with
  | v q => exact .oszero
  | h q i j => simp only [killHC]; split; exact .dead _; exact .oszero
 | ptr h => exact .ptr (hb _ (by simp) _ h)
 | @ep q k i f b n h =>
  cases q with
  | v q => exact .ep (hb _ (by simp) _ h)
  | h q i j =>
   simp only [killHC]; split
   ·exact .dead _
   ·rename_i hq; exact .ep (hb _ (by rintro i j ⟨⟩; exact hq rfl) _ h)
 | sb h => exact .sb (hb _ (by simp) _ h)
 | dp h1 h2 => exact .dp (fun j hj => hV _ _ (h1 j hj)) (fun j hj => (h2 j hj).mono hV)

theorem St.mapC_none {f : CV → CV} {q : Nat} : (S.mapC f).L q = none ↔ S.L q = none := by simp [St.mapC]
theorem mapC_some {f : CV → CV} {q : Nat} {r : Row} (h : (S.mapC f).L q = some r) : ∃ r', S.L q = some r' ∧ r = mapR f r' := by
 simp only [St.mapC, Option.map_eq_some_iff] at h
 obtain ⟨r', hr, h⟩ := h
 exact ⟨r', hr, h.symm⟩
theorem Sat1.mapped (h : Sat1 w0 M N V bs S a w) {f : CV → CV} (hf : ∀ c v, CR V bs c v → CR V bs (f c) v) (hd : ∀ d, f (.dv d) = .dv d := by intro d; rfl) : Sat1 w0 M N V bs (S.mapC f) a w := by
 refine ⟨h.keep, h.view, h.apart, h.inj, h.fresh, fun q r hq hlt hmv => ?_, h.ml, fun q hq => h.dom q (St.mapC_none.1 hq), fun q r hq => ?_, fun t => (h.tmps t).map hf hd, h.defers, h.nt⟩
 ·obtain ⟨r0, h3, _⟩ := mapC_some hq
  exact h.par q r0 h3 hlt hmv
 obtain ⟨r', hr', rfl⟩ := mapC_some hq
 exact (h.rows q r' hr').imp (fun ⟨b, n, h1, h2⟩ => ⟨b, n, h1, h2.map (View.le.refl V) hf (fun _ _ => rfl)⟩) (fun ⟨h1, k, h2⟩ => ⟨h1, k, by rw [h2]; rfl⟩)
theorem Sat1.killed (h : Sat1 w0 M N V bs S a w) (p : Nat) : Sat1 w0 M N V bs (S.kill p) a w := h.mapped fun _ _ hc => killC_ok (View.le.refl V) (fun _ _ _ h => h) hc
theorem Sat1.ren (h : Sat1 w0 M N V bs S a w) {V' : View} {bs' : Loc} {S' : St} {w' : World} (hV : ∀ x v, V' x = some v → V x = some v ∨ ((∃ nm n, bs nm = some (x.block, n) ∧ (w0.heap.size ≤ x.block) ∧ ∀ q, bs' q ≠ none → ∀ b m, bs' q = some (b, m) → b ≠ x.block) ∧ w'.cell? x = some v))
  (ho : w'.os = w.os) (ht : w'.tape = w.tape) (hou : w'.output = w.output) (hsz : w.heap.size ≤ w'.heap.size) (hblk : ∀ k, k < w.heap.size → w'.heap[k]? = w.heap[k]? ∨ ∃ nm n, bs nm = some (k, n))
  (src : Nm → Option Nm) (hinj : ∀ x y z, src x = some z → src y = some z → x = y) (nw : Nm)
  (hsrc : ∀ nm b n, bs' nm = some (b, n) → (∃ m n0, src nm = some m ∧ bs m = some (b, n0) ∧ (m.root = nm.root ∨ w0.heap.size ≤ b)) ∨ (nm = nw ∧ b = w.heap.size ∧ b < w'.heap.size))
  (hpar : ∀ p r, S'.L p = some r → p < M.n → p ∉ S'.mv → M.f (.v p) = bs' (.v p)) (hdom : ∀ p, S'.L p = none → bs' (.v p) = none ∧ ∀ i j, bs' (.h p i j) = none)
  (hrows : ∀ p r, S'.L p = some r → (∃ b n, bs' (.v p) = some (b, n) ∧ RowSat V' bs' w' p b n r) ∨ (bs' (.v p) = none ∧ ∃ k, r = .own k []))
  (htmps : ∀ t, VR V' bs' (S'.T t) (a.tmps.getD t undef)) : Sat1 w0 M N V' bs' S' a w' := by
 have hown : ∀ k nm n, bs nm = some (k, n) → k < w.heap.size := fun k nm n hk => (h.fresh _ _ _ hk).2
 refine ⟨⟨ho.trans h.keep.os, ht.trans h.keep.tape, hou.trans h.keep.output, Nat.le_trans h.keep.size hsz, fun k hk hm => ?_⟩, fun x v hx => ?_, fun x v p b n hx hp => ?_, fun p q b n n' hp hq => ?_, fun p b n hp => ?_, hpar, h.ml, hdom, hrows, htmps, h.defers, h.nt⟩
 ·rcases hblk k (Nat.lt_of_lt_of_le hk h.keep.size) with h1 | ⟨nm, n, h1⟩
  ·rw [h1]; exact h.keep.block k hk hm
  ·rcases (h.fresh _ _ _ h1).1 with h2 | ⟨q, m, h2, _⟩
   ·omega
   ·exact absurd (has_of h2) hm
 ·rcases hV x v hx with hx | ⟨_, hx⟩
  ·have hc := h.view x v hx
   rcases hblk x.block (World.block_lt_of_cell? _ _ hc) with h1 | ⟨nm, n, h1⟩
   ·rw [World.cell_of_block h1]; exact hc
   ·exact absurd rfl (h.apart _ _ _ _ _ hx h1)
  ·exact hx
 ·rcases hV x v hx with hx | ⟨⟨nm, m, h1, _, h2⟩, _⟩
  ·rcases hsrc _ _ _ hp with ⟨m, n0, _, h1, _⟩ | ⟨_, rfl, _⟩
   ·exact h.apart _ _ _ _ _ hx h1
   ·have := World.block_lt_of_cell? _ _ (h.view x v hx); omega
  ·exact fun e => h2 p (by rw [hp]; simp) _ _ hp e.symm
 ·rcases hsrc _ _ _ hp with ⟨m, n0, h1, h2, _⟩ | ⟨rfl, rfl, _⟩ <;> rcases hsrc _ _ _ hq with ⟨m', n0', h1', h2', _⟩ | ⟨e1, e2, _⟩
  ·have := h.inj _ _ _ _ _ h2 h2'; subst this
   exact hinj _ _ _ h1 h1'
  ·have := hown _ _ _ h2; omega
  ·have := hown _ _ _ h2'; omega
  ·rw [e1]
 ·rcases hsrc _ _ _ hp with ⟨m, n0, _, h2, h3⟩ | ⟨rfl, rfl, h2⟩
  ·have h4 := h.fresh _ _ _ h2
   refine ⟨?_, Nat.lt_of_lt_of_le h4.2 hsz⟩
   rcases h3 with h3 | h3
   ·rw [← h3]; exact h4.1
   ·exact .inl h3
  ·exact ⟨.inl h.keep.size, h2⟩

theorem Sat1.empty (h : Sat1 w0 M N V bs S a w) {p : Nat} (hp : S.L p = none) (hp2 : 1000 ≤ p) (k : Nat) : Sat1 w0 M N V bs { S with L := upd S.L p (some (.own k [])) } a w := by
 refine ⟨h.keep, h.view, h.apart, h.inj, h.fresh, fun q r hq hlt hmv => ?_, h.ml, fun q hq => ?_, fun q r hq => ?_, h.tmps, h.defers, h.nt⟩
 ·have e : q ≠ p := by have := h.ml.1; omega
  simp only [upd_ne _ _ _ _ e] at hq; exact h.par q r hq hlt hmv
 ·by_cases e : q = p
  ·subst e; exact h.dom q hp
  ·simp only [upd_ne _ _ _ _ e] at hq; exact h.dom q hq
 ·by_cases e : q = p
  ·subst e; simp at hq; subst hq; exact .inr ⟨(h.dom q hp).1, k, rfl⟩
  ·simp only [upd_ne _ _ _ _ e] at hq; exact h.rows q r hq

theorem rd_of {V' : View} {b k off len cap : Nat} {es : List (List DV)} (hlen : ∀ i (h : i < es.length), es[i].length = k) (hcap : len ≤ cap) (hle : off + len ≤ es.length)
  (hc : ∀ i j (hi : i < es.length) (hj : j < es[i].length), ∃ v, V' ⟨b, i * k + j, none⟩ = some v ∧ Rd V' v es[i][j]) : Rd V' (.slice (some ⟨b, off * k, none⟩) len cap) (.sl ((es.drop off).take len)) := by
 have hl : ((es.drop off).take len).length = len := by simp; omega
 have hget : ∀ i (hi : i < ((es.drop off).take len).length), ((es.drop off).take len)[i] = es[off + i]'(by omega) := fun i hi => by simp
 have hex : ∀ i j, ∃ v, i < len → j < k → (V' ⟨b, (off + i) * k + j, none⟩ = some v ∧ ∀ (hi : off + i < es.length) (hj : j < es[off + i].length), Rd V' v (es[off + i][j])) := fun i j => by
  by_cases hij : i < len ∧ j < k
  ·have hi : off + i < es.length := by omega
   have hj : j < es[off + i].length := by rw [hlen _ hi]; exact hij.2
   obtain ⟨v, h5, h6⟩ := hc _ j hi hj
   exact ⟨v, fun _ _ => ⟨h5, fun _ _ => h6⟩⟩
  ·exact ⟨undef, fun h1 h2 => absurd ⟨h1, h2⟩ hij⟩
 have hsl := Rd.sl (V := V') b (off * k) k cap ((es.drop off).take len) (fun i j => Classical.choose (hex i j)) (by omega) (fun i hi => by rw [hget i hi]; exact hlen _ _) (fun i j hi hj => ?_) (fun i j hi hj => ?_)
 ·rw [hl] at hsl; exact hsl
 ·rw [hl] at hi
  have := (Classical.choose_spec (hex i j) hi hj).1
  rw [show off * k + i * k + j = (off + i) * k + j by rw [Nat.add_mul]]
  exact this
 ·have h5 := hget i hi
  have hi' : i < len := by omega
  have hj' : j < k := by rw [h5, hlen] at hj; exact hj
  have := (Classical.choose_spec (hex i j) hi' hj').2 (by omega) (by rw [hlen]; exact hj')
  have h6 : ((es.drop off).take len)[i][j] = (es[off + i]'(by omega))[j]'(by rw [hlen]; exact hj') := by simp
  rw [h6]; exact this
theorem InSat.rd {V' : View} {b n k off len cap : Nat} {es : List (List DV)} (h : InSat V w b n k es) (hV : ∀ e ∈ es, ∀ d ∈ e, ∀ v, Rd V v d → Rd V' v d) (hcov : ∀ x u, x.block = b → w.cell? x = some u → V' x = some u) (hcap : len ≤ cap) (hle : off + len ≤ es.length) :
  Rd V' (.slice (some ⟨b, off * k, none⟩) len cap) (.sl ((es.drop off).take len)) := by
 obtain ⟨_, _, h3, h4⟩ := h
 refine rd_of h3 hcap hle fun i j hi hj => ?_
 obtain ⟨v, h5, h6⟩ := h4 i j hi hj
 exact ⟨v, hcov _ _ rfl h5, hV _ (List.getElem_mem _) _ (List.getElem_mem _) _ h6⟩
def Carry (V V' : View) (d : DV) : Prop := (∀ v, Rd V v d → Rd V' v d) ∧ ∀ k off len es, d = .ow k off len es → ∀ e ∈ es, ∀ d' ∈ e, ∀ v, Rd V v d' → Rd V' v d'
theorem Carry.mono {V V' : View} (hV : V.le V') (d : DV) : Carry V V' d := ⟨fun _ h => h.mono hV, fun _ _ _ _ _ _ _ _ _ _ h => h.mono hV⟩
theorem CellR.rd' {V' : View} {nm : Nm} {v : Value} {d x : DV} (h : CellR V bs w nm v d) (hx : fzD d = some x) (hV : Carry V V' d) (hcov : ∀ b n, bs nm = some (b, n) → ∀ x u, x.block = b → w.cell? x = some u → V' x = some u) : Rd V' v x := by
 cases h with
 |rd h => cases h with
  | sc v h => simp [fzD] at hx; subst hx; exact .sc v h
  | nil a c => simp [fzD] at hx; subst hx; exact .nil a c
  | sl b o k cap es f hc hk hv hr => simp [fzD] at hx; subst hx; exact hV.1 _ (Rd.sl b o k cap es f hc hk hv hr)
 | no => simp [fzD] at hx
 | ow hb ho hl hc h => simp only [fzD, Option.some.injEq] at hx; subst hx; exact h.rd (hV.2 _ _ _ _ rfl) (hcov _ _ hb) hl ho
 | ownil a k _ => simp [fzD] at hx; subst hx; exact .nil _ _
theorem own_rd' (h : Sat1 w0 M N V bs S a w) {nm : Nm} {k : Nat} {es xs : List (List DV)} (hL : S.Lx nm = some (k, es)) {V1 : View} (hV : ∀ e ∈ es, ∀ d ∈ e, Carry V V1 d)
  (hcov : ∀ q, (q = nm ∨ ∃ p i j, nm = .v p ∧ q = .h p i j) → ∀ b n, bs q = some (b, n) → ∀ x u, x.block = b → w.cell? x = some u → V1 x = some u) {off len : Nat} {v : Value} (hc : CR V bs (.os nm k off len) v) (hle : off + len ≤ es.length)
  (hf : Fz ((es.drop off).take len) xs) : Rd V1 v (.sl xs) := by
 have hlen : ((es.drop off).take len).length = len := by simp; omega
 have hxl := hf.length
 rcases Nat.eq_zero_or_pos len with h0 | h0
 ·subst h0
  obtain rfl : xs = [] := List.eq_nil_of_length_eq_zero (by omega)
  cases hc with
  | os => exact .nil _ _
  | oszero => exact .nil _ _
 cases hc with
 | oszero => omega
 | @os _ _ _ _ b n cap hb hl hcap =>
  cases nm with
  | h p i j =>
   simp only [St.Lx] at hL
   split at hL
   ·rename_i k0 es0 hLp
    split at hL
    ·rename_i e he
     split at hL
     ·rename_i k1 off1 len1 es1 hd
      simp only [Option.some.injEq, Prod.mk.injEq] at hL
      obtain ⟨rfl, rfl⟩ := hL
      obtain ⟨hi, he'⟩ := List.getElem?_eq_some_iff.1 he
      obtain ⟨hj, hd'⟩ := List.getElem?_eq_some_iff.1 hd
      subst he'
      rcases h.rows p _ hLp with ⟨b', n', hb', h1, h2, h3, h4⟩ | ⟨_, k0, hk⟩
      ·obtain ⟨v, h5, h6⟩ := h4 i j hi hj
       rw [hd'] at h6
       cases h6 with
       | rd h => cases h
       | ow hb2 ho hl2 hc2 hin =>
        rw [hb] at hb2; simp only [Option.some.injEq, Prod.mk.injEq] at hb2; obtain ⟨rfl, rfl⟩ := hb2
        have hr := hin.rd (fun e he d hd => (hV e he d hd).1) (hcov _ (.inl rfl) _ _ hb) hl hle
        have hxs : xs = (es1.drop off).take len := by
         obtain ⟨g1, g2, g3, g4⟩ := hin
         refine List.ext_getElem (by omega) fun i2 h7 h8 => List.ext_getElem (hf.len h8 h7) fun j2 h9 h10 => ?_
         have := hf.get h8 h7 h10 h9
         have hmem : off + i2 < es1.length := by omega
         have hh : ((es1.drop off).take len)[i2] = es1[off + i2] := by simp
         have h10' : j2 < es1[off + i2].length := by rw [← hh]; exact h10
         obtain ⟨v2, _, g6⟩ := g4 _ j2 hmem h10'
         have hd2 : ((es1.drop off).take len)[i2][j2] = es1[off + i2][j2] := by simp
         rw [hd2] at this ⊢
         generalize es1[off + i2][j2] = d at g6 this
         cases g6 <;> simp [fzD] at this <;> exact this.symm
        rw [hxs]; exact hr
       | ownil => simp at hle; omega
      ·simp at hk; obtain ⟨rfl, rfl⟩ := hk; simp at hi
     ·simp at hL
    ·simp at hL
   ·simp at hL
  | v p =>
   simp only [St.Lx] at hL
   split at hL
   ·rename_i k' es' hLp
    simp only [Option.some.injEq, Prod.mk.injEq] at hL
    obtain ⟨rfl, rfl⟩ := hL
    rcases h.rows p _ hLp with ⟨b', n', hb', h1, h2, h3, h4⟩ | ⟨hb', _⟩
    ·rw [hb] at hb'; simp at hb'; obtain ⟨rfl, rfl⟩ := hb'
     have hcell : ∀ i j (hi : i < xs.length) (hj : j < xs[i].length), ∃ v, V1 ⟨b, (off + i) * k' + j, none⟩ = some v ∧ Rd V1 v xs[i][j] := fun i j hi hj => by
      have h8 : i < ((es'.drop off).take len).length := by omega
      have h9 := hf.len h8 hi
      have h10 : j < ((es'.drop off).take len)[i].length := by omega
      have hm : off + i < es'.length := by omega
      have hh : ((es'.drop off).take len)[i] = es'[off + i] := by simp
      have h11 : j < es'[off + i].length := by rw [← hh]; exact h10
      have hg := hf.get h8 hi h10 hj
      have hd2 : ((es'.drop off).take len)[i][j] = es'[off + i][j] := by simp
      rw [hd2] at hg
      obtain ⟨v, h5, h6⟩ := h4 _ j hm h11
      exact ⟨v, hcov _ (.inl rfl) _ _ hb _ _ rfl h5, h6.rd' hg (hV _ (List.getElem_mem _) _ (List.getElem_mem _)) (hcov _ (.inr ⟨p, _, _, rfl, rfl⟩))⟩
     have hxk : ∀ i (hi : i < xs.length), xs[i].length = k' := fun i hi => by
      have h8 : i < ((es'.drop off).take len).length := by omega
      rw [hf.len h8 hi]
      have hh : ((es'.drop off).take len)[i] = es'[off + i]'(by omega) := by simp
      rw [hh]; exact h3 _ _
     have hsl := Rd.sl (V := V1) b (off * k') k' cap xs (fun i j => (V1 ⟨b, (off + i) * k' + j, none⟩).getD undef) (by omega) hxk (fun i j hi hj => ?_) (fun i j hi hj => ?_)
     ·rw [show len = xs.length by omega]; exact hsl
     ·obtain ⟨v, h5, _⟩ := hcell i j hi (by rw [hxk]; exact hj)
      rw [show off * k' + i * k' + j = (off + i) * k' + j by rw [Nat.add_mul], h5]; rfl
     ·obtain ⟨v, h5, h6⟩ := hcell i j hi hj
      simp only [h5, Option.getD_some]; exact h6
    ·rw [hb] at hb'; simp at hb'
   ·simp at hL

theorem own_rd (h : Sat1 w0 M N V bs S a w) {nm : Nm} {k : Nat} {es xs : List (List DV)} (hL : S.Lx nm = some (k, es)) {V1 : View} (hV : V.le V1)
  (hcov : ∀ q, (q = nm ∨ ∃ p i j, nm = .v p ∧ q = .h p i j) → ∀ b n, bs q = some (b, n) → ∀ x u, x.block = b → w.cell? x = some u → V1 x = some u) {off len : Nat} {v : Value} (hc : CR V bs (.os nm k off len) v) (hle : off + len ≤ es.length)
  (hf : Fz ((es.drop off).take len) xs) : Rd V1 v (.sl xs) := own_rd' h hL (fun _ _ d _ => Carry.mono hV d) hcov hc hle hf
def newN (p : Nat) : Prop := 1000 ≤ p ∧ p < TKN
theorem newN_fresh (h : Sat1 w0 M N V bs S a w) {nm : Nm} (hp : newN nm.top) {b n : Nat} (hb : bs nm = some (b, n)) : w0.heap.size ≤ b := by
 rcases (h.fresh _ _ _ hb).1 with h1 | ⟨q, m, h1, h2⟩
 ·exact h1
 ·have h3 := h.ml.2 _ _ h1
  have h4 := h.ml.1
  have e1 : q.root = q.top := by
   have : q.top < TKN := by simp only [TKN]; omega
   simp [Nm.root, rt, this]
  have e2 : nm.root = nm.top := by simp [Nm.root, rt, hp.2]
  rw [e1, e2] at h2
  have := hp.1; omega

theorem Sat1.frozen (h : Sat1 w0 M N V bs S a w) {p k : Nat} {es : List (List DV)} (hL : S.L p = some (.own k es)) (hp : newN p) :
  ∃ V' bs', V.le V' ∧ (∀ x v, V' x = some v → V x = some v ∨ w0.heap.size ≤ x.block) ∧ Sat1 w0 M N V' bs' { S.kill p with L := upd (S.kill p).L p none } a w ∧ (∀ q : Nm, q.top ≠ p → bs' q = bs q) ∧ (∀ q : Nm, q.top = p → bs' q = none) ∧
   ∀ off len v xs, CR V bs (.os (.v p) k off len) v → off + len ≤ es.length → Fz ((es.drop off).take len) xs → Rd V' v (.sl xs) := by
 classical
 let V' : View := fun x => match V x with
  | some v => some v
  | none => if ∃ q n, q.top = p ∧ bs q = some (x.block, n) then w.cell? x else none
 let bs' : Loc := fun q => if q.top = p then none else bs q
 have hV : V.le V' := fun x v hx => by simp only [V', hx]
 have hV' : ∀ x v, V' x = some v → V x = some v ∨ (∃ q n, q.top = p ∧ bs q = some (x.block, n)) ∧ w.cell? x = some v := fun x v hx => by
  simp only [V'] at hx
  split at hx
  ·rename_i u hu; simp at hx; subst hx; exact .inl hu
  ·split at hx
   ·rename_i hb; exact .inr ⟨hb, hx⟩
   ·simp at hx
 have hb1 : ∀ q : Nm, q.top ≠ p → bs' q = bs q := fun q hq => by simp [bs', hq]
 have hb2 : ∀ q : Nm, q.top = p → bs' q = none := fun q hq => by simp [bs', hq]
 have hkill : ∀ c v, CR V bs c v → CR V' bs' (killC p c) v := fun c v hc => killC_ok hV (fun q hq x hx => by rw [hb1 q hq]; exact hx) hc
 refine ⟨V', bs', hV, fun x v hx => (hV' x v hx).imp id (fun ⟨⟨q, n, hq, hb⟩, _⟩ => newN_fresh h (by rw [hq]; exact hp) hb), ?_, hb1, hb2, fun off len v xs hc hle hf => ?_⟩
 ·have hap : ∀ (x : Addr) (q : Nm) n, q.top = p → bs q = some (x.block, n) → ∀ q', bs' q' ≠ none → ∀ b m, bs' q' = some (b, m) → b ≠ x.block := fun x q n hq hb q' hq' b m hb' e => by
   subst e
   by_cases e1 : q'.top = p
   ·rw [hb2 q' e1] at hb'; simp at hb'
   ·rw [hb1 q' e1] at hb'
    have := h.inj _ _ _ _ _ hb hb'; subst this; exact e1 hq
  refine h.ren (fun x v hx => (hV' x v hx).imp id (fun ⟨⟨q, n, hq, hb⟩, hc⟩ => ⟨⟨q, n, hb, newN_fresh h (by rw [hq]; exact hp) hb, hap x q n hq hb⟩, hc⟩)) rfl rfl rfl (Nat.le_refl _) (fun _ _ => .inl rfl) some (fun x y z h1 h2 => by simp at h1 h2; rw [h1, h2]) (.v p) (fun nm b n hb => ?_)
   (fun q r hq hlt hmv => ?_) (fun q hq => ?_) (fun q r hq => ?_) (fun t => (h.tmps t).map hkill)
  ·by_cases e1 : nm.top = p
   ·rw [hb2 nm e1] at hb; simp at hb
   ·rw [hb1 nm e1] at hb; exact .inl ⟨nm, n, rfl, hb, .inl rfl⟩
  ·by_cases e1 : q = p
   ·subst e1; simp at hq
   ·rw [hb1 (.v q) e1]; simp only [upd_ne _ _ _ _ e1] at hq
    obtain ⟨r0, h3, _⟩ := mapC_some hq
    exact h.par q r0 h3 hlt hmv
  ·by_cases e1 : q = p
   ·subst e1; exact ⟨hb2 _ rfl, fun i j => hb2 _ rfl⟩
   ·rw [hb1 (.v q) e1]; simp only [upd_ne _ _ _ _ e1] at hq
    have := h.dom q (St.mapC_none.1 hq)
    exact ⟨this.1, fun i j => by rw [hb1 (.h q i j) e1]; exact this.2 i j⟩
  ·by_cases e1 : q = p
   ·subst e1; simp at hq
   ·simp only [upd_ne _ _ _ _ e1] at hq
    obtain ⟨r0, hr0, rfl⟩ := mapC_some hq
    rw [hb1 (.v q) e1]
    exact (h.rows q r0 hr0).imp (fun ⟨b, m, h1, h2⟩ => ⟨b, m, h1, h2.map hV hkill fun i j => hb1 (.h q i j) e1⟩) (fun ⟨h1, k, h2⟩ => ⟨h1, k, by rw [h2]; rfl⟩)
 ·refine own_rd h (nm := .v p) (k := k) (es := es) (by simp [St.Lx, hL]) hV (fun q hq b n hb x u hx hu => ?_) hc hle hf
  have hqp : q.top = p := by rcases hq with rfl | ⟨p', i, j, e1, rfl⟩; rfl; injection e1 with e1; exact e1.symm
  cases hVx : V x with
  | some y => rw [hV _ _ hVx]; rw [h.view _ _ hVx] at hu; exact hu
  | none => simp only [V', hVx]; rw [if_pos ⟨q, n, hqp, by rw [hx]; exact hb⟩]; exact hu
end
end Go.Proofs.Ytpdjehnlejjfmaa.D
/- What a slice holds, as a source; append. -/
namespace Go.Proofs.Ytpdjehnlejjfmaa.D
open Go.RowKit

def FlatR (V : View) (k : Nat) (es : List (List DV)) (us : List Value) : Prop :=
 us.length = es.length * k ∧ (∀ e ∈ es, e.length = k) ∧ ∀ i j (hi : i < es.length) (hj : j < es[i].length), ∃ u, us[i * k + j]? = some u ∧ Rd V u es[i][j]

theorem FlatR.nil (V : View) (k : Nat) : FlatR V k [] [] := ⟨by simp, by simp, fun i j hi => absurd hi (by simp)⟩
theorem FlatR.append {V : View} {k : Nat} {es es' : List (List DV)} {us us' : List Value} (h : FlatR V k es us) (h' : FlatR V k es' us') : FlatR V k (es ++ es') (us ++ us') := by
 obtain ⟨h1, h2, h3⟩ := h
 obtain ⟨h4, h5, h6⟩ := h'
 refine ⟨by simp [h1, h4, Nat.add_mul], fun e he => (List.mem_append.1 he).elim (h2 e) (h5 e), fun i j hi hj => ?_⟩
 by_cases hlt : i < es.length
 ·have he : (es ++ es')[i] = es[i] := List.getElem_append_left hlt
  have hj' : j < es[i].length := by rw [← he]; exact hj
  obtain ⟨u, h7, h8⟩ := h3 i j hlt hj'
  refine ⟨u, ?_, ?_⟩
  ·have : i * k + j < us.length := by
    rw [h2 _ (List.getElem_mem hlt)] at hj'
    rw [h1]
    have : (i + 1) * k ≤ es.length * k := Nat.mul_le_mul_right k hlt
    rw [Nat.add_mul] at this; omega
   rw [List.getElem?_append_left this]; exact h7
  ·simp only [he]; exact h8
 ·have hi' : i - es.length < es'.length := by simp at hi; omega
  have he : (es ++ es')[i] = es'[i - es.length] := List.getElem_append_right (by omega)
  have hj' : j < es'[i - es.length].length := by rw [← he]; exact hj
  obtain ⟨u, h7, h8⟩ := h6 _ j hi' hj'
  refine ⟨u, ?_, ?_⟩
  ·have e1 : i * k = es.length * k + (i - es.length) * k := by rw [← Nat.add_mul]; congr 1; omega
   rw [List.getElem?_append_right (by rw [h1, e1]; omega)]
   rw [← h7]; congr 1; rw [h1, e1]; omega
  ·simp only [he]; exact h8

theorem flat_of {V : View} {w : World} {b o k : Nat} {es : List (List DV)} (hk : ∀ e ∈ es, e.length = k)
  (h : ∀ i j (hi : i < es.length) (hj : j < es[i].length), ∃ v, w.cell? ⟨b, o + (i * k + j), none⟩ = some v ∧ Rd V v es[i][j]) :
  ∃ us, FlatR V k es us ∧ ∀ j u, us[j]? = some u → w.cell? ⟨b, o + j, none⟩ = some u := by
 have hpos : ∀ j, j < es.length * k → 0 < k ∧ j / k < es.length ∧ j % k < k ∧ j / k * k + j % k = j := fun j hj => by
  have hk0 : 0 < k := by rcases Nat.eq_zero_or_pos k with h | h; rw [h] at hj; simp at hj; exact h
  exact ⟨hk0, Nat.div_lt_of_lt_mul (by rw [Nat.mul_comm]; exact hj), Nat.mod_lt _ hk0, by rw [Nat.mul_comm]; exact Nat.div_add_mod j k⟩
 have hcell : ∀ j, j < es.length * k → ∃ u, w.cell? ⟨b, o + j, none⟩ = some u := fun j hj => by
  obtain ⟨_, h1, h2, h3⟩ := hpos j hj
  obtain ⟨v, h4, _⟩ := h (j / k) (j % k) h1 (by rw [hk _ (List.getElem_mem h1)]; exact h2)
  rw [h3] at h4; exact ⟨v, h4⟩
 refine ⟨(List.range (es.length * k)).map fun j => (w.cell? ⟨b, o + j, none⟩).getD undef, ⟨by simp, hk, fun i j hi hj => ?_⟩, fun j u hj => ?_⟩
 ·obtain ⟨v, h1, h2⟩ := h i j hi hj
  have hlt : i * k + j < es.length * k := by
   rw [hk _ (List.getElem_mem hi)] at hj
   have : (i + 1) * k ≤ es.length * k := Nat.mul_le_mul_right k hi
   rw [Nat.add_mul] at this; omega
  exact ⟨v, by simp [hlt, h1], h2⟩
 ·simp only [List.getElem?_map, Option.map_eq_some_iff] at hj
  obtain ⟨m, hm, rfl⟩ := hj
  obtain ⟨hm1, hm2⟩ := List.getElem?_eq_some_iff.1 hm
  simp at hm1 hm2; subst hm2
  obtain ⟨u, hu⟩ := hcell j hm1
  simp [hu]

def srcD (S : St) (size : Nat) (v : SV) (K : List (List DV) → Prop) : Prop :=
 match v with
 | .one .nil => K []
 | .one (.dv (.sl es)) => (∀ e ∈ es, e.length = size) ∧ K es
 | .one (.os p k off len) => (match S.Lx p with | some (k', es) => (k = k' ∧ k = size ∧ off + len ≤ es.length ∧ Fz ((es.drop off).take len) ((es.drop off).take len)) ∧ K ((es.drop off).take len) | _ => False)
 | .one (.dv (.sc (.string s))) => size = 1 ∧ K (s.data.toList.map fun b => [.sc (.int .u8 b.toNat)])
 | _ => False

section
variable {P : Program} {w0 : World} {M : Rows0} {N : Nat} {V : View} {bs : Loc} {S : St} {a : Act} {w : World}

theorem srcD_ok (hs : Sat1 w0 M N V bs S a w) {size : Nat} {sv : SV} {v : Value} (hv : VR V bs sv v) {K : List (List DV) → Prop} (h : srcD S size sv K) :
  ∃ es us, K es ∧ FlatR V size es us ∧ (∀ w' : World, (∀ y, w'.cell? y = w.cell? y) → (Builtin.lenOf v).run P w' = .ok es.length w' ∧ (∀ m, m ≤ es.length → (Builtin.firstCells size m v).run P w' = .ok (us.take (m * size)).toArray w')) ∧
   ((∃ ad cap, v = .slice ad es.length cap) ∨ ∃ s, v = .string s) := by
 have slice : ∀ (es : List (List DV)) (ad : Option Addr) (cap : Nat), (∀ e ∈ es, e.length = size) →
   (es ≠ [] → ∃ b o, ad = some ⟨b, o, none⟩ ∧ ∀ i j (hi : i < es.length) (hj : j < es[i].length), ∃ v, w.cell? ⟨b, o + (i * size + j), none⟩ = some v ∧ Rd V v es[i][j]) →
   ∃ us, FlatR V size es us ∧ (∀ w' : World, (∀ y, w'.cell? y = w.cell? y) → (Builtin.lenOf (.slice ad es.length cap)).run P w' = .ok es.length w' ∧ (∀ m, m ≤ es.length → (Builtin.firstCells size m (.slice ad es.length cap)).run P w' = .ok (us.take (m * size)).toArray w')) := by
  intro es ad cap hk hc
  by_cases hne : es = []
  ·subst hne
   refine ⟨[], .nil V size, fun w' hw' => ⟨by simp [Builtin.lenOf], fun m hm => ?_⟩⟩
   simp at hm; subst hm
   cases ad with
   | none => simp [Builtin.firstCells]
   | some x => simp [Builtin.firstCells, loadCells, loadCellsFrom]
  ·obtain ⟨b, o, rfl, hcell⟩ := hc hne
   obtain ⟨us, hf, hu⟩ := flat_of hk hcell
   refine ⟨us, hf, fun w' hw' => ⟨by simp [Builtin.lenOf], fun m hm => ?_⟩⟩
   have hl : (us.take (m * size)).length = m * size := by
    rw [List.length_take, hf.1]; exact Nat.min_eq_left (Nat.mul_le_mul_right _ hm)
   have := run_loadCells_list (P := P) w' ⟨b, o, none⟩ (us.take (m * size)) (fun j u hj => by
    rw [add_eq, hw']; refine hu j u ?_
    rw [List.getElem?_take] at hj; split at hj
    ·exact hj
    ·simp at hj)
   rw [hl] at this
   simpa [Builtin.firstCells] using this
 unfold srcD at h
 split at h
 ·have := vr_one hv; cases this
  obtain ⟨us, h1, h2⟩ := slice [] none 0 (by simp) (fun h => absurd rfl h)
  exact ⟨_, us, h, h1, h2, .inl ⟨none, 0, rfl⟩⟩
 ·rename_i es
  obtain ⟨hk, h⟩ := h
  have hrd : Rd V v (.sl es) := by have := vr_one hv; cases this; assumption
  obtain ⟨ad, cap, rfl, hcap, hinv⟩ := hrd.inv_k hk
  obtain ⟨us, h1, h2⟩ := slice es ad cap hk (fun hne => by
   obtain ⟨b, o, f, h4, h5, h6⟩ := hinv hne
   refine ⟨b, o, h4, fun i j hi hj => ⟨f i j, ?_, h6 i j hi hj⟩⟩
   have := hs.view _ _ (h5 i j hi (by rw [hk _ (List.getElem_mem hi)] at hj; exact hj))
   rwa [← Nat.add_assoc])
  exact ⟨_, us, h, h1, h2, .inl ⟨ad, cap, rfl⟩⟩
 ·rename_i p k off len
  split at h
  ·rename_i k' es hL
   obtain ⟨⟨rfl, rfl, hle, hfz⟩, h⟩ := h
   have hlen : ((es.drop off).take len).length = len := by simp; omega
   have hcr := vr_one hv
   rcases Lx_sat hs hL with ⟨b', n', hb', g1, g2, g3, g4⟩ | rfl
   ·have hkk : ∀ e ∈ (es.drop off).take len, e.length = k := by
     intro e he
     obtain ⟨i, hi, rfl⟩ := List.mem_iff_getElem.1 (List.mem_of_mem_drop (List.mem_of_mem_take he))
     exact g3 i hi
    cases hcr with
    | @os _ _ _ _ b n cap hb hl hc =>
     rw [hb] at hb'; simp at hb'; obtain ⟨rfl, rfl⟩ := hb'
     obtain ⟨us, h1, h2⟩ := slice ((es.drop off).take len) (some ⟨b, off * k, none⟩) cap hkk (fun hne => ⟨b, off * k, rfl, fun i j hi hj => by
      have hi' : off + i < es.length := by omega
      have he : ((es.drop off).take len)[i] = es[off + i] := by simp
      have hj' : j < es[off + i].length := by rw [← he]; exact hj
      obtain ⟨u, h5, h6, _⟩ := g4 (off + i) j hi' hj'
      have h7 : ((es.drop off).take len)[i][j] = es[off + i][j] := by simp
      have h8 := hfz.get hi hi hj hj
      refine ⟨u, ?_, ?_⟩
      ·rw [show off * k + (i * k + j) = (off + i) * k + j by rw [Nat.add_mul]; omega]; exact h5
      ·rw [h7] at h8 ⊢
       generalize es[off + i][j] = d at h6 h8
       cases d <;> simp [fzD] at h8
       ·cases h6; assumption
       ·cases h6; assumption⟩)
     rw [hlen] at h2
     exact ⟨_, us, h, h1, by rw [hlen]; exact h2, .inl ⟨_, cap, by rw [hlen]⟩⟩
    | oszero =>
     rename_i ad
     obtain ⟨us, h1, h2⟩ := slice ((es.drop off).take 0) ad 0 (by simp) (fun h => absurd (by simp) h)
     exact ⟨_, us, h, h1, by simpa using h2, .inl ⟨ad, 0, by simp⟩⟩
   ·have hl0 : len = 0 := by simp at hle; omega
    subst hl0
    have hsl : ∃ ad cap, v = .slice ad 0 cap := by cases hcr with | os => exact ⟨_, _, rfl⟩ | oszero => exact ⟨_, _, rfl⟩
    obtain ⟨ad, cap, rfl⟩ := hsl
    obtain ⟨us, h1, h2⟩ := slice ((([] : List (List DV)).drop off).take 0) ad cap (by simp) (fun h => absurd (by simp) h)
    exact ⟨_, us, h, h1, by simpa using h2, .inl ⟨ad, cap, by simp⟩⟩
  ·exact h.elim
 ·rename_i s
  obtain ⟨rfl, h⟩ := h
  have := vr_sc hv; subst this
  refine ⟨_, s.data.toList.map fun b => .int .u8 b.toNat, h, ⟨by simp, ?_, fun i j hi hj => ?_⟩, fun w' _ => ⟨?_, fun m hm => ?_⟩, .inr ⟨s, rfl⟩⟩
  ·intro e he; simp only [List.mem_map] at he; obtain ⟨b, _, rfl⟩ := he; rfl
  ·simp at hj; subst hj
   simp at hi
   refine ⟨.int .u8 s.data[i].toNat, by simp [hi], ?_⟩
   simp only [List.getElem_map, List.getElem_cons_zero]
   exact .sc _
  ·simp [Builtin.lenOf]
  ·simp only [Builtin.firstCells, Sem.run_pure, Nat.mul_one]
   congr 1
   apply Array.ext'
   simp [ByteArray.extract, ByteArray.copySlice]
 ·exact h.elim

theorem nextcap_le {n c : Nat} (h : c < n) : Builtin.nextslicecap n c ≤ 2 * n + 1024 := by
 unfold Builtin.nextslicecap
 split
 ·omega
 ·split
  ·omega
  ·simp only [Builtin.growBy]
   repeat' split
   all_goals omega
end
end Go.Proofs.Ytpdjehnlejjfmaa.D
/- The operations that make rows, or write to them. -/
namespace Go.Proofs.Ytpdjehnlejjfmaa.D
open Go.RowKit

def St.new (S : St) (p : Nat) (r : Row) : St := { S with L := upd S.L p (some r) }
def St.mov (S : St) (p : Nat) : St := { S with mv := p :: S.mv }
def St.frz (S : St) (p : Nat) : St := { S.kill p with L := upd (S.kill p).L p none }

def deepCells : St → List CV → (St → List DV → Prop) → Prop
 | S, [], K => K S []
 | S, c :: cs, K =>
  match c with
  | .dv d => deepCells S cs fun S' ds => K S' (d :: ds)
  | .nil => deepCells S cs fun S' ds => K S' (.sl [] :: ds)
  | .os (.v p) k off len =>
   (match S.L p with
   | some (.own k' es) => ∃ xs, (k = k' ∧ off + len ≤ es.length ∧ newN p ∧ Fz ((es.drop off).take len) xs) ∧ deepCells (S.frz p) (cs.map (killC p)) fun S' ds => K S' (.sl xs :: ds)
   | _ => False)
  | _ => False
termination_by _ cs => cs.length

inductive RdL (V : View) : List Value → List DV → Prop
 | nil : RdL V [] []
 | cons {v : Value} {d : DV} {vs : List Value} {ds : List DV} (h : Rd V v d) (t : RdL V vs ds) : RdL V (v :: vs) (d :: ds)
theorem RdL.mono {V V' : View} (hV : V.le V') {vs : List Value} {ds : List DV} (h : RdL V vs ds) : RdL V' vs ds := by
 induction h with
 | nil => exact .nil
 | cons h _ ih => exact .cons (h.mono hV) ih
theorem RdL.length {V : View} {vs : List Value} {ds : List DV} (h : RdL V vs ds) : vs.length = ds.length := by
 induction h with
 | nil => rfl
 | cons _ _ ih => simp [ih]
theorem RdL.get {V : View} {vs : List Value} {ds : List DV} (h : RdL V vs ds) : ∀ (j : Nat) (hj : j < ds.length), ∃ v, vs[j]? = some v ∧ Rd V v ds[j] := by
 induction h with
 | nil => intro j hj; simp at hj
 | cons h _ ih =>
  intro j hj
  cases j with
  | zero => exact ⟨_, rfl, h⟩
  | succ j => obtain ⟨v, h1, h2⟩ := ih j (by simpa using hj); exact ⟨v, by simpa using h1, by simpa using h2⟩

section
variable {P : Program} {w0 : World} {M : Rows0} {N : Nat} {V V0 : View} {bs : Loc} {S : St} {a : Act} {w : World}

theorem deepCells_ok : ∀ (n : Nat) {V : View} {bs : Loc} {S : St} (cs : List CV) (vs : List Value) (K : St → List DV → Prop), cs.length = n → Sat1 w0 M N V bs S a w → CRs V bs cs vs → deepCells S cs K →
  ∃ S' V' bs' ds, K S' ds ∧ V.le V' ∧ (∀ x v, V' x = some v → V x = some v ∨ w0.heap.size ≤ x.block) ∧ Sat1 w0 M N V' bs' S' a w ∧ RdL V' vs ds ∧
   (∀ q, S.L q = none → S'.L q = none) ∧ (∀ q : Nm, S'.L q.top ≠ none → bs' q = bs q)
 |0, V, bs, S, [], _, K, _, hs, hc, h => by
  cases hc
  simp only [deepCells] at h
  exact ⟨S, V, bs, [], h, View.le.refl V, fun _ _ h => .inl h, hs, .nil, fun _ h => h, fun _ _ => rfl⟩
 |n + 1, V, bs, S, c :: cs, _, K, hn, hs, hc, h => by
  cases hc with
  | @cons _ v _ vs hcv hcs =>
   unfold deepCells at h
   simp at hn
   split at h
   ·rename_i d
    obtain ⟨S', V', bs', ds, h1, h2, h3, h4, h5, h6, h7⟩ := deepCells_ok n cs vs _ hn hs hcs h
    refine ⟨S', V', bs', d :: ds, h1, h2, h3, h4, .cons ?_ h5, h6, h7⟩
    cases hcv; rename_i hr; exact hr.mono h2
   ·obtain ⟨S', V', bs', ds, h1, h2, h3, h4, h5, h6, h7⟩ := deepCells_ok n cs vs _ hn hs hcs h
    refine ⟨S', V', bs', .sl [] :: ds, h1, h2, h3, h4, .cons ?_ h5, h6, h7⟩
    cases hcv; exact .nil _ _
   ·rename_i p k off len
    split at h
    ·rename_i k' es hL
     obtain ⟨xs, ⟨rfl, hle, hp, hf⟩, h⟩ := h
     obtain ⟨V1, bs1, g1, g2, g3, g5, g6, g4⟩ := hs.frozen hL hp
     obtain ⟨S', V', bs', ds, h1, h2, h3, h4, h5, h6, h7⟩ := deepCells_ok n (cs.map (killC p)) vs _ (by simpa using hn) g3 ((hcs.map fun c v hc => killC_ok g1 (fun q hq x hx => by rw [g5 q hq]; exact hx) hc)) h
     refine ⟨S', V', bs', _, h1, g1.trans h2, fun x v hx => (h3 x v hx).elim (g2 x v) .inr, h4, .cons ((g4 off len v xs hcv hle hf).mono h2) h5, fun q hq => h6 q ?_, fun q hq => ?_⟩
     ·by_cases e : q = p
      ·subst e; simp [hL] at hq
      ·simp only [upd_ne _ _ _ _ e]; exact St.mapC_none.2 hq
     ·rw [h7 q hq]
      by_cases e : q.top = p
      ·rw [← e] at h6; exact absurd (h6 q.top (by simp [e])) hq
      ·exact g5 q e
    ·exact h.elim
   ·exact h.elim

theorem wp_value {o : Oper} {v : Value} {w' : World} {K : Act → World → Prop} {Q : Exit → Act → World → Prop} (hr : (execOp a.eval o).run P w = .ok (.value v) w') (h : K (a.put o.dst v) w') : o.wp P a w K Q := by
 unfold Oper.wp; rw [hr]; exact h
theorem wp_skip' {o : Oper} {w' : World} {K : Act → World → Prop} {Q : Exit → Act → World → Prop} (hr : (execOp a.eval o).run P w = .ok .skip w') (h : K (a.put o.dst undef) w') : o.wp P a w K Q := by
 unfold Oper.wp; rw [hr]; exact h

theorem Sat1.sat {V : View} (h0 : V0.le V) (h1 : ∀ x v, V x = some v → V0 x = some v ∨ w0.heap.size ≤ x.block) (h : Sat1 w0 M N V bs S a w) : Sat w0 M N V0 S a w := ⟨V, bs, h0, h1, h⟩

def nextP (pl : Option (Nat × Nat)) : Option (Nat × Nat) := match pl with | some (i, j) => some (i, j + 1) | none => none
def moveD (S : St) (pr : Nat) : Option (Nat × Nat) → List Nat → List CV → (List DV → List (Option Nat) → Prop) → Prop
 | _, _, [], K => K [] []
 | pl, ws, c :: cs, K =>
  match c with
  | .dv d => moveD S pr (nextP pl) ws.tail cs fun ds qs => K (d :: ds) (none :: qs)
  | .nil => moveD S pr (nextP pl) ws.tail cs fun ds qs => K (.ow (ws.headD 0) 0 0 [] :: ds) (none :: qs)
  | .os (.h p i j) k off len =>
   (match pl with
   |some (i0, j0) => (p = pr ∧ i = i0 ∧ j = j0) ∧ (match S.Lx (.h p i j) with
    | some (k', es) => (k = k' ∧ off + len ≤ es.length ∧ 0 < len) ∧ moveD S pr (nextP pl) ws.tail cs fun ds qs => K (.ow k off len es :: ds) (none :: qs)
    | none => False)
   | none => False)
  | .os (.v q) k off len =>
   (match S.L q with
   | some (.own k' es) => (k = k' ∧ off + len = es.length ∧ (off = 0 ∨ 0 < len) ∧ Fz es es ∧ (newN q ∨ rt q = rt pr) ∧ q ≠ pr) ∧ moveD S pr (nextP pl) ws.tail cs fun ds qs => K (.ow k off len es :: ds) (some q :: qs)
   | _ => False)
  | _ => False
structure Moved (V : View) (bs : Loc) (w : World) (S : St) (pr : Nat) (pl : Option (Nat × Nat)) (vs : List Value) (ds : List DV) (qs : List (Option Nat)) : Prop where
 l1 : ds.length = vs.length
 l2 : qs.length = vs.length
 q : ∀ q, some q ∈ qs → S.L q ≠ none ∧ (newN q ∨ rt q = rt pr) ∧ q ≠ pr
 c : ∀ (j : Nat) (v : Value) (d : DV) (o : Option Nat), vs[j]? = some v → ds[j]? = some d → qs[j]? = some o → v.oneCell' = true ∧ ((∀ (nm : Nm) (bs' : Loc), bs' nm = none → CellR V bs' w nm v d) ∨ (∃ q, o = some q ∧ CellR V bs w (.v q) v d) ∨ (o = none ∧ ∃ i0 j0, pl = some (i0, j0) ∧ CellR V bs w (.h pr i0 (j0 + j)) v d))
theorem Fz.self {es : List (List DV)} (h : Fz es es) {i j : Nat} (hi : i < es.length) (hj : j < es[i].length) : fzD es[i][j] = some es[i][j] := h.get hi hi hj hj
theorem CellR.plain {nm : Nm} {v : Value} {d : DV} (h : CellR V bs w nm v d) (hd : fzD d = some d) : Rd V v d := by
 cases h with
 | rd h => exact h
 | no => simp [fzD] at hd
 | ow => simp [fzD] at hd
 | ownil => simp [fzD] at hd
theorem moveD_ok (hs : Sat1 w0 M N V bs S a w) {pr : Nat} : ∀ {pl : Option (Nat × Nat)} {ws : List Nat} {cs : List CV} {vs : List Value} {K : List DV → List (Option Nat) → Prop}, CRs V bs cs vs → moveD S pr pl ws cs K → ∃ ds qs, K ds qs ∧ Moved V bs w S pr pl vs ds qs
 | _, _, [], _, K, hc, h => by cases hc; exact ⟨[], [], h, rfl, rfl, fun q h => by simp at h, fun j v d o h => by simp at h⟩
 |pl, ws, c :: cs, _, K, hc, h => by
  cases hc with
  | @cons _ v _ vs hcv hcs =>
   have fin : ∀ {ds qs d o}, Moved V bs w S pr (nextP pl) vs ds qs → (∀ q, o = some q → S.L q ≠ none ∧ (newN q ∨ rt q = rt pr) ∧ q ≠ pr) → (v.oneCell' = true ∧ ((∀ (nm : Nm) (bs' : Loc), bs' nm = none → CellR V bs' w nm v d) ∨ (∃ q, o = some q ∧ CellR V bs w (.v q) v d) ∨ (o = none ∧ ∃ i0 j0, pl = some (i0, j0) ∧ CellR V bs w (.h pr i0 j0) v d))) → Moved V bs w S pr pl (v :: vs) (d :: ds) (o :: qs) := fun hm ho hx => by
    refine ⟨by simp [hm.l1], by simp [hm.l2], fun q hq => ?_, fun j v' d' o' h1 h2 h3 => ?_⟩
    ·rcases List.mem_cons.1 hq with h | h
     ·exact ho q h.symm
     ·exact hm.q q h
    cases j with
    | zero => simp at h1 h2 h3; subst h1; subst h2; subst h3; simpa using hx
    | succ j =>
     obtain ⟨g1, g2⟩ := hm.c j v' d' o' (by simpa using h1) (by simpa using h2) (by simpa using h3)
     refine ⟨g1, g2.imp id (Or.imp id ?_)⟩
     rintro ⟨g3, i0, j0, g4, g5⟩
     refine ⟨g3, ?_⟩
     cases pl with
     | none => simp [nextP] at g4
     | some x =>
      simp only [nextP, Option.some.injEq, Prod.mk.injEq] at g4
      obtain ⟨rfl, rfl⟩ := g4
      exact ⟨x.1, x.2, rfl, by rwa [show x.2 + (j + 1) = x.2 + 1 + j by omega]⟩
   simp only [moveD] at h
   split at h
   ·obtain ⟨ds, qs, h1, h2⟩ := moveD_ok hs hcs h
    refine ⟨_, _, h1, fin h2 (fun q h => by simp at h) ?_⟩
    cases hcv; rename_i hr
    exact ⟨by cases hr <;> first | rfl | assumption, .inl fun _ _ _ => .rd hr⟩
   ·obtain ⟨ds, qs, h1, h2⟩ := moveD_ok hs hcs h
    refine ⟨_, _, h1, fin h2 (fun q h => by simp at h) ?_⟩
    cases hcv
    exact ⟨rfl, .inl fun _ _ h => .ownil _ _ h⟩
   ·rename_i p i j k off len
    split at h
    ·rename_i i0 j0
     obtain ⟨⟨rfl, rfl, rfl⟩, h⟩ := h
     split at h
     ·rename_i k' es hL
      obtain ⟨⟨rfl, hl, h0⟩, h⟩ := h
      obtain ⟨ds, qs, h1, h2⟩ := moveD_ok hs hcs h
      refine ⟨_, _, h1, fin h2 (fun q h => by simp at h) ⟨?_, .inr (.inr ⟨rfl, _, _, rfl, ?_⟩)⟩⟩
      ·cases hcv <;> rfl
      ·cases hcv with
       | @os _ _ _ _ b n cap hb hlc hcap =>
        rcases Lx_sat hs hL with ⟨b', n', hb', g1, g2, g3, g4⟩ | he
        ·rw [hb] at hb'; simp at hb'; obtain ⟨rfl, rfl⟩ := hb'
         exact .ow hb hl hlc hcap ⟨g1, g2, g3, fun i j hi hj => by
          obtain ⟨v, g5, _, g6⟩ := g4 i j hi hj
          exact ⟨v, g5, g6 _ _ _ rfl⟩⟩
        ·subst he; simp at hl; omega
       | oszero => omega
     ·exact h.elim
    ·exact h.elim
   ·rename_i q k off len
    split at h
    ·rename_i k' es hL
     obtain ⟨⟨rfl, hl, ho, hf, hq, hqp⟩, h⟩ := h
     obtain ⟨ds, qs, h1, h2⟩ := moveD_ok hs hcs h
     refine ⟨_, _, h1, fin h2 (fun q' h => by simp at h; subst h; exact ⟨by rw [hL]; simp, hq, hqp⟩) ⟨?_, ?_⟩⟩
     ·cases hcv <;> rfl
     ·cases hcv with
      | @os _ _ _ _ b n cap hb hlc hcap =>
       rcases hs.rows q _ hL with ⟨b', n', hb', g1, g2, g3, g4⟩ | ⟨hb', _⟩
       ·rw [hb] at hb'; simp at hb'; obtain ⟨rfl, rfl⟩ := hb'
        exact .inr (.inl ⟨q, rfl, .ow hb (by omega) hlc hcap ⟨g1, g2, g3, fun i j hi hj => by
         obtain ⟨v, g5, g6⟩ := g4 i j hi hj
         exact ⟨v, g5, g6.plain (hf.self hi hj)⟩⟩⟩)
       ·rw [hb] at hb'; simp at hb'
      | oszero =>
       obtain rfl : off = 0 := by omega
       obtain rfl : es = [] := List.eq_nil_of_length_eq_zero (by omega)
       exact .inl fun _ _ h => .ownil _ _ h
    ·exact h.elim
   ·exact h.elim

theorem Sat1.newBox (h : Sat1 w0 M N V bs S a w) {p : Nat} (hp : S.L p = none) (hp2 : 1000 ≤ p) {cs : List CV} {vs : Array Value} {t : TypeId} (hc : CRs V bs cs vs.toList) :
  Sat1 w0 M N V (upd bs (.v p) (some (w.heap.size, cs.length))) (S.new p (.box cs)) a (w.alloc (.cells vs t)) ∧ upd bs (.v p) (some (w.heap.size, cs.length)) (.v p) = some (w.heap.size, cs.length) := by
 refine ⟨h.alloc hp hp2 ⟨rfl, fun j _ => World.frozen?_alloc_new _ _ _ _, (h.dom p hp).2, vs.toList, hc, fun j v hj => ?_⟩, by simp⟩
 rw [World.cell?_alloc_new]; simpa using hj

theorem rowSat_new {p k : Nat} {es : List (List DV)} {us : List Value} {rest : List Value} {t : TypeId} (hf : FlatR V k es us) :
  RowSat V bs (w.alloc (.cells (us ++ rest).toArray t)) p w.heap.size (us ++ rest).length (.own k es) := by
 obtain ⟨h1, h2, h3⟩ := hf
 refine ⟨by simp [h1], fun j hj => ⟨?_, World.frozen?_alloc_new _ _ _ _⟩, fun i hi => h2 _ (List.getElem_mem hi), fun i j hi hj => ?_⟩
 ·rw [World.cell?_alloc_new]; simpa using hj
 ·obtain ⟨u, h4, h5⟩ := h3 i j hi hj
  refine ⟨u, ?_, .rd h5⟩
  rw [World.cell?_alloc_new]
  have hlt := (List.getElem?_eq_some_iff.1 h4).1
  simp only [List.getElem?_toArray]
  rw [List.getElem?_append_left hlt]; exact h4
end
end Go.Proofs.Ytpdjehnlejjfmaa.D
/- append, as the model runs it. -/
namespace Go.Proofs.Ytpdjehnlejjfmaa.D
open Go.RowKit

section
variable {P : Program} (tb : Tab P) {w0 : World} {M : Rows0} {N : Nat} {V V0 : View} {bs : Loc} {S : St} {a : Act} {w : World}

theorem zeroCells_size (z : Array Value) (n : Nat) : (Builtin.zeroCells z n).size = n * z.size := by simp [Builtin.zeroCells]

theorem run_append_grow {t t' ty e : TypeId} {i i' : TyI} (ht : P.underlying t = some (.slice e)) (hi : TyFacts P e i) (hz : i.zero ≠ []) (hi' : TyFacts P t' i') (hk : (∃ e, i'.kind = .slice e) ∨ i'.kind = .string)
  {base : Option Addr} {len cap n : Nat} {x : Value} {old new : Array Value} (hneed : cap < len + n) (hb : (2 * (len + n) + 1024) * i.bytes ≤ 2 ^ 48) (h40 : len + n ≤ 2 ^ 48)
  (hl : (Builtin.lenOf x).run P w = .ok n w) (ho : (Builtin.firstCells i.size len (.slice base len cap)).run P w.drew = .ok old w.drew)
  (hn : (Builtin.firstCells i.size n x).run P w.drew = .ok new w.drew) :
  ∃ (c : Nat) (rest : List Value), len + n ≤ c ∧ rest.length = (c - (len + n)) * i.size ∧
   (Builtin.append_ #[t, t'] ty #[.slice base len cap, x]).run P w = .ok (.slice (some ⟨w.heap.size, 0, none⟩) (len + n) c) (w.drew.alloc (.cells (old ++ new ++ rest.toArray) e)) := by
 obtain ⟨info, hinf, hs1, hs2, _⟩ := hi.info
 obtain ⟨z, hzr, hzc, _⟩ := hi.run_zero hz w.drew
 have hzl := hi.zlen hz
 have hsz : z.cells.size = i.size := by rw [← hzl]; have := congrArg List.length hzc; simpa using this
 have hnc := nextcap_le hneed
 have hpick : ¬ (Builtin.nextslicecap (len + n) cap * i.bytes > 2 ^ 48) := by
  have : Builtin.nextslicecap (len + n) cap * i.bytes ≤ (2 * (len + n) + 1024) * i.bytes := Nat.mul_le_mul_right _ hnc
  omega
 have hn1 : ¬ (len + n ≤ cap) := by omega
 have h63 : ¬ (((len : Int) + (n : Int)) > IntKind.i64.max) := by
  have : IntKind.i64.max = 9223372036854775807 := by decide
  omega
 refine ⟨(Question.appendCap (len + n) cap e).cut (w.tape w.drawn (.appendCap (len + n) cap e)), (Builtin.zeroCells z.cells ((Question.appendCap (len + n) cap e).cut (w.tape w.drawn (.appendCap (len + n) cap e)) - (len + n))).toList, ?_, ?_, ?_⟩
 ·simp only [Question.cut]; omega
 ·rw [Array.length_toList, zeroCells_size, hsz]
 ·have hq : (Question.appendCap (len + n) cap e).forced = false := rfl
  have hu1 := fun w => Go.run_underlying ht w
  have hz1 := fun w => hi.run_sizeOf w
  have h63' : ¬ (9223372036854775807 < ((len : Int) + (n : Int))) := by omega
  have hpick' : ¬ (281474976710656 < Builtin.nextslicecap (len + n) cap * i.bytes) := by omega
  have hdrew : ({ w with drawn := w.drawn + 1 } : World) = w.drew := rfl
  rcases hk with ⟨e', hk⟩ | hk
  ·have hu2 := fun w => Go.run_underlying (hi'.slice hk) w
   simp [Builtin.append_, hu1, hu2, hz1, hl, hn1, h63', hpick', hinf, hs2, typeInfo, hq, ho, hn, hzr, newRow]
  ·have hu2 := fun w => Go.run_underlying (hi'.string hk) w
   simp [Builtin.append_, hu1, hu2, hz1, hl, hn1, h63', hpick', hinf, hs2, typeInfo, hq, ho, hn, hzr, newRow]

theorem run_append_fits {t t' ty e : TypeId} {i i' : TyI} (ht : P.underlying t = some (.slice e)) (hi : TyFacts P e i) (hi' : TyFacts P t' i') (hk : (∃ e, i'.kind = .slice e) ∨ i'.kind = .string)
  {b : Nat} {o len cap n : Nat} {x : Value} {new : Array Value} (hneed : len + n ≤ cap) (hl : (Builtin.lenOf x).run P w = .ok n w)
  (hn : (Builtin.firstCells i.size n x).run P w = .ok new w) {w' : World} (hst : (storeCells ⟨b, o, none⟩ new.toList (len * i.size)).run P w = .ok () w') :
  (Builtin.append_ #[t, t'] ty #[.slice (some ⟨b, o, none⟩) len cap, x]).run P w = .ok (.slice (some ⟨b, o, none⟩) (len + n) cap) w' := by
 have hu1 := fun w => Go.run_underlying ht w
 have hz1 := fun w => hi.run_sizeOf w
 have hshift : ∀ (us : List Value) (m k o : Nat) (w : World), (storeCells ⟨b, o + m, none⟩ us k).run P w = (storeCells ⟨b, o, none⟩ us (m + k)).run P w := by
  intro us
  induction us with
  | nil => intro m k o w; simp [storeCells]
  | cons u us ih => intro m k o w; simp only [storeCells, Sem.run_bind, add_eq, Nat.add_assoc, ih]
 have h0 := hshift new.toList (len * i.size) 0 o w
 rw [Nat.add_zero, hst] at h0
 rcases hk with ⟨e', hk⟩ | hk
 ·have hu2 := fun w => Go.run_underlying (hi'.slice hk) w
  simp [Builtin.append_, hu1, hu2, hz1, hl, hneed, hn, add_eq, h0]
 ·have hu2 := fun w => Go.run_underlying (hi'.string hk) w
  simp [Builtin.append_, hu1, hu2, hz1, hl, hneed, hn, add_eq, h0]

theorem run_append_nothing {t t' ty e : TypeId} {i i' : TyI} (ht : P.underlying t = some (.slice e)) (hi : TyFacts P e i) (hi' : TyFacts P t' i') (hk : (∃ e, i'.kind = .slice e) ∨ i'.kind = .string)
  {ad : Option Addr} {cap : Nat} {x : Value} (hl : (Builtin.lenOf x).run P w = .ok 0 w) (hn : (Builtin.firstCells i.size 0 x).run P w = .ok #[] w) :
  (Builtin.append_ #[t, t'] ty #[.slice ad 0 cap, x]).run P w = .ok (.slice ad 0 cap) w := by
 have hu1 := fun w => Go.run_underlying ht w
 have hz1 := fun w => hi.run_sizeOf w
 rcases hk with ⟨e', hk⟩ | hk
 ·have hu2 := fun w => Go.run_underlying (hi'.slice hk) w
  cases ad <;> simp [Builtin.append_, hu1, hu2, hz1, hl, hn, storeCells]
 ·have hu2 := fun w => Go.run_underlying (hi'.string hk) w
  cases ad <;> simp [Builtin.append_, hu1, hu2, hz1, hl, hn, storeCells]
end
end Go.Proofs.Ytpdjehnlejjfmaa.D
