/- Values as they read, own rows, and what a state of a function's run says of a world. -/
import Derived.Calls
import Derived.Orders
import Derived.Laws.Sem
import Derived.Laws.Cells
import Derived.Laws.World
import Derived.Laws.Entries
import Derived.Below
namespace Go.Proofs.Ytoklfidamhigcaa.D
open Go.RowKit

/-- A cell as it reads: a value without memory behind it; a slice by its elements, each a list of cells. -/
inductive DV where
  | sc (v : Value)
  | sl (es : List (List DV))
instance : Inhabited DV := ⟨.sc default⟩

abbrev View := Addr → Option Value

inductive Rd (V : View) : Value → DV → Prop
  | sc (v : Value) (h : v.oneCell' = true := by rfl) : Rd V v (.sc v)
  | nil (a : Option Addr) (c : Nat) : Rd V (.slice a 0 c) (.sl [])
  | sl (b o k cap : Nat) (es : List (List DV)) (f : Nat → Nat → Value) (hc : es.length ≤ cap)
      (hk : ∀ i (h : i < es.length), es[i].length = k)
      (hV : ∀ i j, i < es.length → j < k → V ⟨b, o + i * k + j, none⟩ = some (f i j))
      (hr : ∀ i j (hi : i < es.length) (hj : j < es[i].length), Rd V (f i j) es[i][j]) :
      Rd V (.slice (some ⟨b, o, none⟩) es.length cap) (.sl es)

def View.le (V V' : View) : Prop := ∀ x v, V x = some v → V' x = some v
theorem View.le.refl (V : View) : V.le V := fun _ _ h => h
theorem View.le.trans {A B C : View} (h : A.le B) (k : B.le C) : A.le C := fun x v e => k x v (h x v e)

theorem Rd.mono {V V' : View} (hle : V.le V') {v : Value} {d : DV} (h : Rd V v d) : Rd V' v d := by
  induction h with
  | sc v h => exact .sc v h
  | nil a c => exact .nil a c
  | sl b o k cap es f hc hk hV _ ih => exact .sl b o k cap es f hc hk (fun i j hi hj => hle _ _ (hV i j hi hj)) ih

theorem Rd.inv {V : View} {v : Value} {es : List (List DV)} (h : Rd V v (.sl es)) : ∃ ad cap, v = .slice ad es.length cap ∧ es.length ≤ cap ∧
    (es ≠ [] → ∃ (b o k : Nat) (f : Nat → Nat → Value), ad = some ⟨b, o, none⟩ ∧ (∀ i (h : i < es.length), es[i].length = k) ∧ (∀ i j, i < es.length → j < k → V ⟨b, o + i * k + j, none⟩ = some (f i j)) ∧
      ∀ i j (hi : i < es.length) (hj : j < es[i].length), Rd V (f i j) es[i][j]) := by
  cases h with
  | nil a c => exact ⟨a, c, rfl, Nat.zero_le _, fun h => absurd rfl h⟩
  | sl b o k cap _ f hc hk hV hr => exact ⟨_, cap, rfl, hc, fun _ => ⟨b, o, k, f, rfl, hk, hV, hr⟩⟩
theorem Rd.inv_k {V : View} {v : Value} {es : List (List DV)} (h : Rd V v (.sl es)) {k : Nat} (hk : ∀ e ∈ es, e.length = k) : ∃ ad cap, v = .slice ad es.length cap ∧ es.length ≤ cap ∧
    (es ≠ [] → ∃ (b o : Nat) (f : Nat → Nat → Value), ad = some ⟨b, o, none⟩ ∧ (∀ i j, i < es.length → j < k → V ⟨b, o + i * k + j, none⟩ = some (f i j)) ∧
      ∀ i j (hi : i < es.length) (hj : j < es[i].length), Rd V (f i j) es[i][j]) := by
  obtain ⟨ad, cap, h1, h2, h3⟩ := h.inv
  refine ⟨ad, cap, h1, h2, fun hne => ?_⟩
  obtain ⟨b, o, k', f, h4, h5, h6, h7⟩ := h3 hne
  have h0 : 0 < es.length := by cases es with | nil => exact absurd rfl hne | cons _ _ => simp
  have : k' = k := by rw [← h5 0 h0]; exact hk _ (List.getElem_mem _)
  subst this
  exact ⟨b, o, f, h4, h6, h7⟩

/-- A cell of a function's own memory or of a slot. -/
inductive CV where
  | dead
  | nil
  | dv (d : DV)
  | os (p k off len : Nat)
  | ptr (p off : Nat)
  | ep (p k i f : Nat)
  | dp (cells : List DV) (f : Nat)
  | sb (p o k n : Nat)
instance : Inhabited CV := ⟨.dead⟩

inductive SV where
  | one (c : CV)
  | agg (cs : List CV)
  | tup (vs : List (Bool × List CV))
instance : Inhabited SV := ⟨.one .dead⟩

inductive Row where
  | box (cs : List CV)
  | own (k : Nat) (es : List (List DV))

abbrev Loc := Nat → Option (Nat × Nat)

inductive CR (V : View) (bs : Loc) : CV → Value → Prop
  | dead (v : Value) : CR V bs .dead v
  | nil : CR V bs .nil (.slice none 0 0)
  | dv {d : DV} {v : Value} (h : Rd V v d) : CR V bs (.dv d) v
  | os {p k off len b n cap : Nat} (h : bs p = some (b, n)) (hl : len ≤ cap) (hc : (off + cap) * k ≤ n) : CR V bs (.os p k off len) (.slice (some ⟨b, off * k, none⟩) len cap)
  | oszero {p k off : Nat} {a : Option Addr} : CR V bs (.os p k off 0) (.slice a 0 0)
  | ptr {p off b n : Nat} (h : bs p = some (b, n)) : CR V bs (.ptr p off) (.pointer (some ⟨b, off, none⟩))
  | ep {p k i f b n : Nat} (h : bs p = some (b, n)) : CR V bs (.ep p k i f) (.pointer (some ⟨b, i * k + f, none⟩))
  | dp {cells : List DV} {f b o : Nat} {g : Nat → Value} (hV : ∀ j, j < cells.length → V ⟨b, o + j, none⟩ = some (g j)) (hr : ∀ j (h : j < cells.length), Rd V (g j) cells[j]) :
      CR V bs (.dp cells f) (.pointer (some ⟨b, o + f, none⟩))
  | sb {p o k n b m : Nat} (h : bs p = some (b, m)) : CR V bs (.sb p o k n) (.slice (some ⟨b, o, none⟩) n n)

theorem CR.mono {V V' : View} {bs bs' : Loc} (hV : V.le V') (hb : ∀ p x, bs p = some x → bs' p = some x) {c : CV} {v : Value} (h : CR V bs c v) : CR V' bs' c v := by
  cases h with
  | dead => exact .dead _
  | nil => exact .nil
  | dv h => exact .dv (h.mono hV)
  | os h hl hc => exact .os (hb _ _ h) hl hc
  | oszero => exact .oszero
  | ptr h => exact .ptr (hb _ _ h)
  | ep h => exact .ep (hb _ _ h)
  | dp h1 h2 => exact .dp (fun j hj => hV _ _ (h1 j hj)) (fun j hj => (h2 j hj).mono hV)
  | sb h => exact .sb (hb _ _ h)

/-- Lists of cells. -/
inductive CRs (V : View) (bs : Loc) : List CV → List Value → Prop
  | nil : CRs V bs [] []
  | cons {c : CV} {v : Value} {cs : List CV} {vs : List Value} (h : CR V bs c v) (t : CRs V bs cs vs) : CRs V bs (c :: cs) (v :: vs)

theorem CRs.mono {V V' : View} {bs bs' : Loc} (hV : V.le V') (hb : ∀ p x, bs p = some x → bs' p = some x) {c : List CV} {v : List Value} (h : CRs V bs c v) : CRs V' bs' c v := by
  induction h with
  | nil => exact .nil
  | cons h _ ih => exact .cons (h.mono hV hb) ih

theorem CRs.length {V : View} {bs : Loc} {c : List CV} {v : List Value} (h : CRs V bs c v) : c.length = v.length := by
  induction h with
  | nil => rfl
  | cons _ _ ih => simp [ih]

theorem CRs.get {V : View} {bs : Loc} {c : List CV} {v : List Value} (h : CRs V bs c v) : ∀ (i : Nat) (x : CV), c[i]? = some x → ∃ u, v[i]? = some u ∧ CR V bs x u := by
  induction h with
  | nil => intro i x h; simp at h
  | cons h _ ih =>
    intro i x hx
    cases i with
    | zero => simp at hx; subst hx; exact ⟨_, rfl, h⟩
    | succ i => simp at hx; obtain ⟨u, h1, h2⟩ := ih i x hx; exact ⟨u, by simpa using h1, h2⟩

theorem CRs.append {V : View} {bs : Loc} {c c' : List CV} {v v' : List Value} (h : CRs V bs c v) (h' : CRs V bs c' v') : CRs V bs (c ++ c') (v ++ v') := by
  induction h with
  | nil => exact h'
  | cons h _ ih => exact .cons h ih

theorem CRs.take {V : View} {bs : Loc} {c : List CV} {v : List Value} (h : CRs V bs c v) : ∀ n, CRs V bs (c.take n) (v.take n) := by
  induction h with
  | nil => intro n; simp; exact .nil
  | cons h _ ih => intro n; cases n with
    | zero => simp; exact .nil
    | succ n => simp; exact .cons h (ih n)

theorem CRs.drop {V : View} {bs : Loc} {c : List CV} {v : List Value} (h : CRs V bs c v) : ∀ n, CRs V bs (c.drop n) (v.drop n) := by
  induction h with
  | nil => intro n; simp; exact .nil
  | cons h t ih => intro n; cases n with
    | zero => simp; exact .cons h t
    | succ n => simp; exact ih n

theorem CRs.of_get {V : View} {bs : Loc} : ∀ {c : List CV} {v : List Value}, c.length = v.length → (∀ (i : Nat) (x : CV) (u : Value), c[i]? = some x → v[i]? = some u → CR V bs x u) → CRs V bs c v
  | [], [], _, _ => .nil
  | _ :: _, _ :: _, hl, h => .cons (h 0 _ _ rfl rfl) (CRs.of_get (by simpa using hl) fun i x u h1 h2 => h (i + 1) x u (by simpa using h1) (by simpa using h2))

/-- A slot's value. -/
inductive VR (V : View) (bs : Loc) : SV → Value → Prop
  | one {c : CV} {v : Value} (h : CR V bs c v) : VR V bs (.one c) v
  | agg {cs : List CV} {vs : List Value} (h : CRs V bs cs vs) : VR V bs (.agg cs) (.agg vs.toArray)
  | tup {ps : List (Bool × List CV)} {vs : List Value} (hl : ps.length = vs.length)
      (h : ∀ (i : Nat) b cs u, ps[i]? = some (b, cs) → vs[i]? = some u → (b = true ∧ ∃ us, u = .agg us.toArray ∧ CRs V bs cs us) ∨ (b = false ∧ ∃ c, cs = [c] ∧ CR V bs c u)) :
      VR V bs (.tup ps) (.tuple vs.toArray)

theorem VR.mono {V V' : View} {bs bs' : Loc} (hV : V.le V') (hb : ∀ p x, bs p = some x → bs' p = some x) {c : SV} {v : Value} (h : VR V bs c v) : VR V' bs' c v := by
  cases h with
  | one h => exact .one (h.mono hV hb)
  | agg h => exact .agg (h.mono hV hb)
  | tup hl h => exact .tup hl fun i b cs u h1 h2 => (h i b cs u h1 h2).imp (fun ⟨a, us, e, r⟩ => ⟨a, us, e, r.mono hV hb⟩) (fun ⟨a, c, e, r⟩ => ⟨a, c, e, r.mono hV hb⟩)

abbrev Rows0 := List (Option (Nat × Nat))
def blks (M : Rows0) : List Nat := M.filterMap fun x => x.map (·.1)
theorem mem_blks {M : Rows0} {p b n : Nat} (h : M[p]? = some (some (b, n))) : b ∈ blks M := List.mem_filterMap.2 ⟨_, List.mem_of_getElem? h, rfl⟩
/-- Nothing but what is named may have turned. -/
structure Keep (M : Rows0) (w w' : World) : Prop where
  os : w'.os = w.os
  tape : w'.tape = w.tape
  output : w'.output = w.output
  size : w.heap.size ≤ w'.heap.size
  block : ∀ k, k < w.heap.size → k ∉ blks M → w'.heap[k]? = w.heap[k]?

theorem Keep.refl (M : Rows0) (w : World) : Keep M w w := ⟨rfl, rfl, rfl, Nat.le_refl _, fun _ _ _ => rfl⟩
theorem Keep.trans {M : Rows0} {a b c : World} (h : Keep M a b) (k : Keep M b c) : Keep M a c :=
  ⟨k.os.trans h.os, k.tape.trans h.tape, k.output.trans h.output, Nat.le_trans h.size k.size, fun i hi hm => (k.block i (Nat.lt_of_lt_of_le hi h.size) hm).trans (h.block i hi hm)⟩
theorem Keep.below {w w' : World} (h : Keep [] w w') : Below w.heap.size w w' := ⟨h.os, h.tape, h.output, h.size, fun k hk => h.block k hk (by simp [blks])⟩

/-- A row lies in block b: its cells, and room for n of them. -/
def RowSat (V : View) (bs : Loc) (w : World) (b n : Nat) : Row → Prop
  | .box cs => n = cs.length ∧ (∀ j, j < n → w.frozen? ⟨b, j, none⟩ = false) ∧ ∃ vs, CRs V bs cs vs ∧ ∀ j v, vs[j]? = some v → w.cell? ⟨b, j, none⟩ = some v
  | .own k es => es.length * k ≤ n ∧ (∀ j, j < n → (w.cell? ⟨b, j, none⟩).isSome ∧ w.frozen? ⟨b, j, none⟩ = false) ∧
      (∀ i (h : i < es.length), es[i].length = k) ∧
      ∀ i j (hi : i < es.length) (hj : j < es[i].length), ∃ v, w.cell? ⟨b, i * k + j, none⟩ = some v ∧ Rd V v es[i][j]

/-- Slots; rows; the rows of the caller that lie elsewhere now. -/
structure St where
  T : Nat → SV
  L : Nat → Option Row
  mv : List Nat := []

structure Sat1 (w0 : World) (M : Rows0) (N : Nat) (V : View) (bs : Loc) (S : St) (a : Act) (w : World) : Prop where
  keep : Keep M w0 w
  view : ∀ x v, V x = some v → w.cell? x = some v
  apart : ∀ x v p b n, V x = some v → bs p = some (b, n) → x.block ≠ b
  inj : ∀ p q b n n', bs p = some (b, n) → bs q = some (b, n') → p = q
  fresh : ∀ p b n, bs p = some (b, n) → (w0.heap.size ≤ b ∨ M[p]? = some (some (b, n))) ∧ b < w.heap.size
  par : ∀ p r, S.L p = some r → p < M.length → p ∉ S.mv → M[p]? = some (bs p)
  ml : M.length ≤ 1000
  dom : ∀ p, S.L p = none → bs p = none
  rows : ∀ p r, S.L p = some r → (∃ b n, bs p = some (b, n) ∧ RowSat V bs w b n r) ∨ (bs p = none ∧ ∃ k, r = .own k [])
  tmps : ∀ t, VR V bs (S.T t) (a.tmps.getD t undef)
  defers : a.defers = []
  nt : a.tmps.size = N

def Sat (w0 : World) (M : Rows0) (N : Nat) (V0 : View) (S : St) (a : Act) (w : World) : Prop := ∃ V bs, V0.le V ∧ (∀ x v, V x = some v → V0 x = some v ∨ w0.heap.size ≤ x.block) ∧ Sat1 w0 M N V bs S a w
end Go.Proofs.Ytoklfidamhigcaa.D
