/- The operations that touch no memory, or only read it: their answers. -/
import Derived.Test.YtoklfidamhigcaaDC
namespace Go.Proofs.Ytoklfidamhigcaa.D
open Go.RowKit

abbrev vI (k : IntKind) (n : Int) : SV := .one (.dv (.sc (.int k n)))
abbrev vB (b : Bool) : SV := .one (.dv (.sc (.bool b)))
abbrev vS (s : ByteArray) : SV := .one (.dv (.sc (.string s)))

def cellOk : CV → Bool
  | .dead => false
  | .dv (.sc v) => v.oneCell'
  | _ => true
theorem cellOk_one {V : View} {bs : Loc} {c : CV} {v : Value} (h : CR V bs c v) (hc : cellOk c = true) : v.oneCell' = true := by
  cases h with
  | dead => simp [cellOk] at hc
  | dv h => cases h with
    | sc _ h => exact h
    | nil => rfl
    | sl => rfl
  | _ => rfl
def SV.cells? : SV → Option (List CV)
  | .one c => if cellOk c then some [c] else none
  | .agg cs => some cs
  | .tup _ => none
theorem SV.cells_ok {V : View} {bs : Loc} {sv : SV} {v : Value} {cs : List CV} (h : VR V bs sv v) (hc : sv.cells? = some cs) : CRs V bs cs v.cells.toList := by
  cases h with
  | one h =>
    simp only [SV.cells?] at hc
    split at hc
    · rename_i hk
      have h1 := cellOk_one h hk
      simp at hc; subst hc
      have : ∀ {v : Value}, v.oneCell' = true → v.cells.toList = [v] := by intro v hv; cases v <;> simp_all [Value.cells, Value.oneCell']
      rw [this h1]
      exact .cons h .nil
    · simp at hc
  | agg h => simp [SV.cells?] at hc; subst hc; simpa [Value.cells] using h
  | tup => simp [SV.cells?] at hc

/-- A part of a row of cells, as a value of a type. -/
def selD (i : TyI) (cs : List CV) (off : Nat) (K : SV → Prop) : Prop :=
  match i.kind.agg with
  | true => off + i.size ≤ cs.length ∧ K (.agg ((cs.drop off).take i.size))
  | false => match cs[off]? with | some c => K (.one c) | none => False

def ptrAdd : CV → Nat → Option CV
  | .ptr p o, n => some (.ptr p (o + n))
  | .ep p k i f, n => some (.ep p k i (f + n))
  | .dp c f, n => some (.dp c (f + n))
  | _, _ => none
theorem ptrAdd_ok {V : View} {bs : Loc} {c c' : CV} {v : Value} {n : Nat} (h : CR V bs c v) (hc : ptrAdd c n = some c') :
    ∃ b o, v = .pointer (some ⟨b, o, none⟩) ∧ CR V bs c' (.pointer (some ((⟨b, o, none⟩ : Addr).add n))) := by
  cases h with
  | ptr h => simp [ptrAdd] at hc; subst hc; exact ⟨_, _, rfl, by rw [add_eq]; exact .ptr h⟩
  | ep h => simp [ptrAdd] at hc; subst hc; exact ⟨_, _, rfl, by rw [add_eq, Nat.add_assoc]; exact .ep h⟩
  | dp h1 h2 => simp [ptrAdd] at hc; subst hc; exact ⟨_, _, rfl, by rw [add_eq, Nat.add_assoc]; exact .dp h1 h2⟩
  | _ => simp [ptrAdd] at hc

/-- The cells behind a pointer, and which of them it points at. -/
def ptrCells (S : St) : CV → Option (List CV × Nat)
  | .ptr p o => match S.L p with | some (.box cs) => some (cs, o) | _ => none
  | .ep p k i f => match S.L p with | some (.own k' es) => if k = k' then some ((es.getD i []).map .dv, f) else none | _ => none
  | .dp c f => some (c.map .dv, f)
  | _ => none

section
variable {w0 : World} {M : Rows0} {N : Nat} {V : View} {bs : Loc} {S : St} {a : Act} {w : World}

theorem ptrCells_ok (hs : Sat1 w0 M N V bs S a w) {c : CV} {v : Value} {cs : List CV} {o : Nat} (h : CR V bs c v) (hc : ptrCells S c = some (cs, o)) :
    ∃ b base, v = .pointer (some ⟨b, base + o, none⟩) ∧ ∀ j x, cs[j]? = some x → ∃ u, w.cell? ⟨b, base + j, none⟩ = some u ∧ CR V bs x u := by
  cases h with
  | @ptr p off b n h =>
    simp only [ptrCells] at hc
    split at hc
    · rename_i cs' hL
      simp at hc; obtain ⟨rfl, rfl⟩ := hc
      refine ⟨b, 0, by simp, fun j x hx => ?_⟩
      rcases hs.rows p _ hL with ⟨b', n', hb, hr⟩ | ⟨_, k, hk⟩
      · rw [h] at hb; simp at hb; obtain ⟨rfl, rfl⟩ := hb
        obtain ⟨_, _, vs, h1, h2⟩ := hr
        obtain ⟨u, hu, hcr⟩ := h1.get j x hx
        exact ⟨u, by simpa using h2 j u hu, hcr⟩
      · simp at hk
    · simp at hc
  | @ep p k i f b n h =>
    simp only [ptrCells] at hc
    split at hc
    · rename_i k' es hL
      split at hc
      · rename_i hk; subst hk
        simp at hc; obtain ⟨rfl, rfl⟩ := hc
        refine ⟨b, i * k, by simp, fun j x hx => ?_⟩
        rcases hs.rows p _ hL with ⟨b', n', hb, hr⟩ | ⟨_, k, hk⟩
        · rw [h] at hb; simp at hb; obtain ⟨rfl, rfl⟩ := hb
          obtain ⟨_, _, hlen, h2⟩ := hr
          rw [List.getElem?_map] at hx
          simp only [Option.map_eq_some_iff] at hx
          obtain ⟨d, hd, rfl⟩ := hx
          have hi : i < es.length := by
            rcases Nat.lt_or_ge i es.length with h' | h'
            · exact h'
            · rw [List.getElem?_eq_none h'] at hd; simp at hd
          have hg : es[i]? = some es[i] := List.getElem?_eq_getElem hi
          rw [hg] at hd
          simp only [Option.getD_some] at hd
          obtain ⟨hj, hd'⟩ := List.getElem?_eq_some_iff.1 hd
          obtain ⟨u, hu, hrd⟩ := h2 i j hi hj
          exact ⟨u, hu, .dv (hd' ▸ hrd)⟩
        · simp at hk; obtain ⟨rfl, rfl⟩ := hk; simp at hx
      · simp at hc
    · simp at hc
  | @dp cells f b o g h1 h2 =>
    simp [ptrCells] at hc; obtain ⟨rfl, rfl⟩ := hc
    refine ⟨b, o, rfl, fun j x hx => ?_⟩
    rw [List.getElem?_map] at hx
    simp only [Option.map_eq_some_iff] at hx
    obtain ⟨d, hd, rfl⟩ := hx
    obtain ⟨hj, hd'⟩ := List.getElem?_eq_some_iff.1 hd
    exact ⟨_, hs.view _ _ (h1 j hj), .dv (hd' ▸ h2 j hj)⟩
  | _ => simp [ptrCells] at hc

theorem list_of_cells (f : Nat → Value → Prop) : ∀ (n base : Nat), (∀ j, j < n → ∃ u, f (base + j) u) → ∃ us : List Value, us.length = n ∧ ∀ j u, us[j]? = some u → f (base + j) u
  | 0, _, _ => ⟨[], rfl, fun j u h => by simp at h⟩
  | n + 1, base, h => by
    obtain ⟨u0, h0⟩ := h 0 (by omega)
    obtain ⟨us, hl, hu⟩ := list_of_cells f n (base + 1) (fun j hj => by have := h (j + 1) (by omega); rwa [show base + 1 + j = base + (j + 1) by omega])
    refine ⟨u0 :: us, by simp [hl], fun j u hj => ?_⟩
    cases j with
    | zero => simp at hj; subst hj; exact h0
    | succ j => simp at hj; have := hu j u hj; rwa [show base + (j + 1) = base + 1 + j by omega]

theorem loadVar_ok {P : Program} {t : TypeId} {i : TyI} (hT : TyFacts P t i) {K : SV → Prop} {cs : List CV} {o b base : Nat}
    (hcell : ∀ j x, cs[j]? = some x → ∃ u, w.cell? ⟨b, base + j, none⟩ = some u ∧ CR V bs x u) (h : selD i cs o K) :
    ∃ sv v, K sv ∧ VR V bs sv v ∧ (loadVar t ⟨b, base + o, none⟩).run P w = .ok v w := by
  unfold selD at h
  cases hk : i.kind.agg with
  | true =>
    rw [hk] at h
    obtain ⟨hle, hK⟩ := h
    obtain ⟨us, hl, hu⟩ := list_of_cells (fun j u => w.cell? ⟨b, base + j, none⟩ = some u ∧ ∀ x, cs[j]? = some x → CR V bs x u) i.size o (fun j hj => by
      have hx : cs[o + j]? = some (cs[o + j]'(by omega)) := List.getElem?_eq_getElem _
      obtain ⟨u, h1, h2⟩ := hcell _ _ hx
      exact ⟨u, h1, fun x hx' => by rw [hx] at hx'; simp at hx'; subst hx'; exact h2⟩)
    have hcrs : CRs V bs ((cs.drop o).take i.size) us := by
      apply CRs.of_get
      · simp [hl]; omega
      · intro j x u hx hj
        have hjl : j < i.size := by
          rcases Nat.lt_or_ge j us.length with h' | h'
          · omega
          · rw [List.getElem?_eq_none h'] at hj; simp at hj
        refine (hu j u hj).2 x ?_
        rw [List.getElem?_take, if_pos hjl, List.getElem?_drop] at hx
        exact hx
    refine ⟨_, _, hK, .agg hcrs, ?_⟩
    have := run_loadCells_list (P := P) w ⟨b, base + o, none⟩ us (fun j v hj => by rw [add_eq, Nat.add_assoc]; exact (hu j v hj).1)
    simp [loadVar, hT.run_isAgg, hT.run_sizeOf, hk, ← hl, this]
  | false =>
    rw [hk] at h
    simp only at h
    split at h
    · rename_i c hc
      obtain ⟨u, h1, h2⟩ := hcell _ _ hc
      exact ⟨_, _, h, .one h2, by simp [loadVar, hT.run_isAgg, hk, h1]⟩
    · exact h.elim
end

def mapInt (S : St) (x : Operand) (K : IntKind → Int → Prop) : Prop :=
  match S.ev x with | .one (.dv (.sc (.int k n))) => K k n | _ => False
def fillC (place : Nat → Option (Nat × Nat)) (cells : List CV) : List (Nat × SV) → Option (List CV)
  | [] => some cells
  | (i, v) :: rest =>
    match place i, v.cells? with
    | some (off, size), some cs => if cs.length = size ∧ off + size ≤ cells.length then fillC place (cells.take off ++ cs ++ cells.drop (off + size)) rest else none
    | _, _ => none
def fieldPlaceD (tb : TypeId → Option TyI) (fs : List (Nat × TypeId)) (f : Nat) : Option (Nat × Nat) :=
  match fs[f]? with
  | some (off, t) => match tb t with | some i => some (off, i.size) | none => none
  | none => none
def boundD (S : St) (x : Option Operand) (dflt y : Nat) (K : Nat → Prop) : Prop :=
  match x with
  | none => K dflt
  | some x => mapInt S x fun _ n => (0 ≤ n ∧ n ≤ (y : Int)) ∧ K n.toNat

def lenD (tb : TypeId → Option TyI) (t : TypeId) (v : SV) (K : SV → Prop) : Prop :=
  match tb t, v with
  | some { kind := .string, .. }, .one (.dv (.sc (.string s))) => K (vI .i64 s.size)
  | some { kind := .slice _, .. }, .one (.dv (.sl es)) => K (vI .i64 es.length)
  | some { kind := .slice _, .. }, .one (.os _ _ _ n) => K (vI .i64 n)
  | some { kind := .slice _, .. }, .one .nil => K (vI .i64 0)
  | some { kind := .array n _, .. }, _ => K (vI .i64 n)
  | _, _ => False

def callValD (tb : TypeId → Option TyI) (S : St) (c : Callee) (args : List Operand) (types : List TypeId) (K : SV → Prop) : Prop :=
  match c with
  | .builtin .len => (match args, types with | [x], [t] => lenD tb t (S.ev x) K | _, _ => False)
  | .builtin .max => (match args with | [x, y] => mapInt S x fun k m => mapInt S y fun _ n => K (vI k (if n > m then n else m)) | _ => False)
  | .builtin .min => (match args with | [x, y] => mapInt S x fun k m => mapInt S y fun _ n => K (vI k (if n < m then n else m)) | _ => False)
  | _ => False

def pickS (q : Bool) (a b : SV) : SV :=
  match a, b with
  | .one (.dv (.sc (.bool x))), .one (.dv (.sc (.bool y))) => vB (if q = true then x else y)
  | a, b => if q = true then a else b
theorem pickS_eq (q : Bool) (a b : SV) : pickS q a b = if q = true then a else b := by
  unfold pickS; split
  · cases q <;> simp
  · rfl

/-- Two values of a type that can be compared. -/
def eqFs (tb : TypeId → Option TyI) (rec : TypeId → SV → SV → (Bool → Prop) → Prop) : List (Nat × TypeId) → List CV → List CV → (Bool → Prop) → Prop
  | [], _, _, K => K true
  | (off, ft) :: rest, cs, ds, K =>
    match tb ft with
    | some i => selD i cs off fun a => selD i ds off fun b => rec ft a b fun r => eqFs tb rec rest cs ds fun r' => K (r && r')
    | none => False
def eqK (tb : TypeId → Option TyI) : Nat → TypeId → SV → SV → (Bool → Prop) → Prop
  | 0, _, _, _, _ => False
  | n + 1, t, u, v, K =>
    match tb t, u, v with
    | some { kind := .int _, .. }, .one (.dv (.sc (.int k a))), .one (.dv (.sc (.int k' b))) => k = k' ∧ K (a == b)
    | some { kind := .string, .. }, .one (.dv (.sc (.string a))), .one (.dv (.sc (.string b))) => K (a.toList == b.toList)
    | some { kind := .bool, .. }, .one (.dv (.sc (.bool a))), .one (.dv (.sc (.bool b))) => K (a == b)
    | some { kind := .struct fs, cmp := true, .. }, .agg cs, .agg ds => eqFs tb (eqK tb n) fs cs ds K
    | _, _, _ => False

def valD (tb : TypeId → Option TyI) (S : St) (op : Op) (K : SV → Prop) : Prop :=
  match op with
  | .move x => K (S.ev x)
  | .assign x => K (S.ev x)
  | .pick c a b => match S.ev c with | .one (.dv (.sc (.bool q))) => K (pickS q (S.ev a) (S.ev b)) | _ => False
  | .binOp op t x y _ =>
    match S.ev x, S.ev y with
    | .one (.dv (.sc u)), .one (.dv (.sc v)) => binD tb op t u v fun r => K (.one (.dv (.sc r)))
    | .agg cs, .agg ds =>
      match op with
      | .eql => eqK tb 20 t (.agg cs) (.agg ds) fun r => K (vB r)
      | .neq => eqK tb 20 t (.agg cs) (.agg ds) fun r => K (vB !r)
      | _ => False
    | _, _ => False
  | .unOp op _ x =>
    match op, S.ev x with
    | .neg, .one (.dv (.sc (.int k n))) => K (vI k (k.wrap (0 - n)))
    | .xor, .one (.dv (.sc (.int k n))) => K (vI k (bits .xor k (if k.signed then -1 else k.max) n))
    | .not, .one (.dv (.sc (.bool b))) => K (vB !b)
    | _, _ => False
  | .convert src dst x =>
    match tb src, tb dst, S.ev x with
    | some _, some { kind := .int k, .. }, .one (.dv (.sc (.int _ n))) => K (vI k (k.wrap n))
    | some { kind := .string, .. }, some { kind := .string, .. }, .one (.dv (.sc (.string s))) => K (vS s)
    | _, _, _ => False
  | .fieldAddr s x f =>
    match tb s, S.ev x with
    | some { kind := .struct fs, .. }, .one c => (match fs[f]? with | some (off, _) => (match ptrAdd c off with | some c' => K (.one c') | none => False) | none => False)
    | _, _ => False
  | .field s x f =>
    match tb s, S.ev x with
    | some { kind := .struct fs, .. }, .agg cs => (match fs[f]? with | some (off, t) => (match tb t with | some i => selD i cs off K | none => False) | none => False)
    | _, _ => False
  | .indexAddr t x ix => mapInt S ix fun _ n =>
    match tb t, S.ev x with
    | some { kind := .slice e, .. }, .one (.dv (.sl es)) => (match tb e with | some i => ((0 ≤ n ∧ n < (es.length : Int)) ∧ (es.getD n.toNat []).length = i.size) ∧ K (.one (.dp (es.getD n.toNat []) 0)) | none => False)
    | some { kind := .slice e, .. }, .one (.os p k off len) => (match tb e with | some i => i.size = k ∧ (0 ≤ n ∧ n < (len : Int)) ∧ K (.one (.ep p k (off + n.toNat) 0)) | none => False)
    | some { kind := .array m e, .. }, .one c => (match tb e with | some i => (0 ≤ n ∧ n < (m : Int)) ∧ (match ptrAdd c (n.toNat * i.size) with | some c' => K (.one c') | none => False) | none => False)
    | _, _ => False
  | .index t x ix => mapInt S ix fun _ n =>
    match tb t, S.ev x with
    | some { kind := .array m e, .. }, .agg cs => (match tb e with | some i => (0 ≤ n ∧ n < (m : Int)) ∧ selD i cs (n.toNat * i.size) K | none => False)
    | some { kind := .string, .. }, .one (.dv (.sc (.string s))) => 0 ≤ n ∧ (match s[n.toNat]? with | some b => K (vI .u8 b.toNat) | none => False)
    | _, _ => False
  | .slice t x lo hi mx =>
    match tb t, S.ev x with
    | some { kind := .string, .. }, .one (.dv (.sc (.string s))) => mx = none ∧ boundD S hi s.size s.size fun h => boundD S lo 0 h fun l => K (vS (s.extract l h))
    | some { kind := .slice e, .. }, .one (.dv (.sl es)) => (match tb e with
      | some i => (∀ e ∈ es, e.length = i.size) ∧ mx = none ∧ boundD S hi es.length es.length fun h => boundD S lo 0 h fun l => K (.one (.dv (.sl ((es.take h).drop l))))
      | none => False)
    | some { kind := .slice e, .. }, .one (.os p k off len) => (match tb e with
      | some i => i.size = k ∧ mx = none ∧ boundD S hi len len fun h => boundD S lo 0 h fun l => K (.one (.os p k (off + l) (h - l)))
      | none => False)
    | some { kind := .array m e, .. }, .one (.ptr p o) => (match tb e with
      | some i => (lo = none ∧ hi = none ∧ mx = none) ∧ K (.one (.sb p o i.size m))
      | none => False)
    | _, _ => False
  | .extract x ix =>
    match S.ev x with
    | .tup vs => (match vs[ix]? with | some (true, cs) => K (.agg cs) | some (false, [c]) => K (.one c) | _ => False)
    | _ => False
  | .nilCheck x =>
    match S.ev x with
    | .one (.ptr p o) => K (.one (.ptr p o))
    | .one (.ep p k i f) => K (.one (.ep p k i f))
    | .one (.dp c f) => K (.one (.dp c f))
    | .one (.dv (.sc (.func (.func f) u v))) => K (.one (.dv (.sc (.func (.func f) u v))))
    | _ => False
  | .build t parts =>
    match tb t with
    | some { kind := .struct fs, zero := z, .. } =>
      z ≠ [] ∧ (match fillC (fieldPlaceD tb fs) (z.map Z.cv) (parts.toList.map fun p => (p.1, S.ev p.2)) with | some cs => K (.agg cs) | none => False)
    | some { kind := .array _ e, zero := z, .. } =>
      (match tb e with
      | some i => z ≠ [] ∧ (match fillC (fun j => some (j * i.size, i.size)) (z.map Z.cv) (parts.toList.map fun p => (p.1, S.ev p.2)) with | some cs => K (.agg cs) | none => False)
      | none => False)
    | _ => False
  | .load t x =>
    match tb t, S.ev x with
    | some i, .one c => (match ptrCells S c with | some (cs, o) => selD i cs o K | none => False)
    | _, _ => False
  | .call c => callValD tb S c.callee c.args.toList c.argTypes.toList K
  | _ => False
end Go.Proofs.Ytoklfidamhigcaa.D
