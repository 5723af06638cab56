/- The steps of a run, in the form that is gone through by reduction: values. -/
import Derived.Test.YtoklfidamhigcaaDW
namespace Go.Proofs.Ytoklfidamhigcaa.D
open Go.RowKit

/-- What is to be shown on the way. -/
structure Need (p X : Prop) : Prop where
  p : p
  x : X
inductive Pick {α : Type} (p : α → Prop) (X : α → Prop) : Prop
  | mk (x : α) (hp : p x) (hx : X x)
structure Done (p : Prop) : Prop where
  ok : p
def chk (b : Bool) (X : Prop) : Prop := match b with | true => X | false => False
def br (b : Bool) (X Y : Prop) : Prop := match b with | true => X | false => Y
theorem chk_iff {b : Bool} {X : Prop} : chk b X ↔ b = true ∧ X := by cases b <;> simp [chk]
theorem br_iff {b : Bool} {X Y : Prop} : br b X Y ↔ (b = true → X) ∧ (b = false → Y) := by cases b <;> simp [br]
theorem Need.iff {p X : Prop} : Need p X ↔ p ∧ X := ⟨fun h => ⟨h.1, h.2⟩, fun h => ⟨h.1, h.2⟩⟩
theorem Pick.iff {α : Type} {p : α → Prop} {X : α → Prop} : Pick p X ↔ ∃ x, p x ∧ X x := ⟨fun ⟨x, a, b⟩ => ⟨x, a, b⟩, fun ⟨x, a, b⟩ => ⟨x, a, b⟩⟩
theorem br_split {b : Bool} {X Y : Prop} (h1 : b = true → X) (h2 : b = false → Y) : br b X Y := br_iff.2 ⟨h1, h2⟩
theorem br_dec {p : Prop} [Decidable p] {X Y : Prop} (h1 : p → X) (h2 : ¬p → Y) : br (decide p) X Y := br_iff.2 ⟨fun h => h1 (of_decide_eq_true h), fun h => h2 (of_decide_eq_false h)⟩
theorem br_not {b : Bool} {X Y : Prop} (h : br b Y X) : br (!b) X Y := by cases b <;> exact h
theorem br_beq {a b : Int} {X Y : Prop} (h1 : a = b → X) (h2 : a ≠ b → Y) : br (a == b) X Y := br_iff.2 ⟨fun h => h1 (by simpa using h), fun h => h2 (by simpa using h)⟩
theorem br_bne {a b : Int} {X Y : Prop} (h1 : a ≠ b → X) (h2 : a = b → Y) : br (a != b) X Y := br_iff.2 ⟨fun h => h1 (by simpa using h), fun h => h2 (by simpa using h)⟩
theorem br_and {a b : Bool} {X Y : Prop} (h : br a (br b X Y) Y) : br (a && b) X Y := by cases a <;> exact h
theorem br_or {a b : Bool} {X Y : Prop} (h : br a X (br b X Y)) : br (a || b) X Y := by cases a <;> exact h
theorem wid {x : Int} (h1 : -9223372036854775808 ≤ x) (h2 : x ≤ 9223372036854775807) : IntKind.i64.wrap x = x := wrap64_id h1 h2
theorem weq {x y : Int} (h : x = y) (h1 : -9223372036854775808 ≤ x) (h2 : x ≤ 9223372036854775807) : IntKind.i64.wrap x = y := h ▸ wrap64_id h1 h2
theorem pick_nat {α : Type} (l : List α) (f : α → List DV) (i : Nat) (h : i < l.length) : 0 ≤ (i : Int) ∧ (l.map f)[(i : Int).toNat]? = some (f l[i]) := ⟨by omega, by simp [h]⟩
theorem pick_int {α : Type} (l : List α) (f : α → List DV) (n : Int) (h0 : 0 ≤ n) (h : n < l.length) : 0 ≤ n ∧ (l.map f)[n.toNat]? = some (f (l[n.toNat]'(by omega))) := ⟨h0, by rw [List.getElem?_map, List.getElem?_eq_getElem (by omega)]; rfl⟩
theorem get_nat {α : Type} (l : List α) (f : α → List DV) (i : Nat) (h : i < l.length) : (l.map f)[i]? = some (f l[i]) := by simp [h]
theorem all_map {α : Type} (l : List α) (f : α → List DV) (k : Nat) (h : ∀ a, (f a).length = k) : ∀ e ∈ l.map f, e.length = k := fun e he => by obtain ⟨a, _, rfl⟩ := List.mem_map.1 he; exact h a
theorem br_true {X Y : Prop} {b : Bool} (e : b = true) (h : X) : br b X Y := by subst e; exact h
theorem br_false {X Y : Prop} {b : Bool} (e : b = false) (h : Y) : br b X Y := by subst e; exact h

/-- A number, a cell, a value, laid open. -/
def fN (n : Nat) (K : Nat → Prop) : Prop := match n with | 0 => K 0 | n + 1 => K (n + 1)
theorem fN_iff {n : Nat} {K : Nat → Prop} : fN n K ↔ K n := by cases n <;> exact Iff.rfl
def fNs : List Nat → (List Nat → Prop) → Prop
  | [], K => K []
  | n :: ns, K => fN n fun n => fNs ns fun ns => K (n :: ns)
theorem fNs_iff : ∀ {ns : List Nat} {K : List Nat → Prop}, fNs ns K ↔ K ns
  | [], _ => Iff.rfl
  | n :: ns, K => by simp only [fNs, fN_iff, fNs_iff]
def fC (c : CV) (K : CV → Prop) : Prop :=
  match c with
  | .dead => K .dead | .nil => K .nil | .dv d => K (.dv d) | .os p k off len => fN p fun p => fN k fun k => K (.os p k off len) | .ptr p o => fN p fun p => fN o fun o => K (.ptr p o) | .ep p k i f => fN p fun p => fN k fun k => K (.ep p k i f) | .dp cs f => K (.dp cs f) | .sb p o k n => fN p fun p => fN o fun o => fN k fun k => fN n fun n => K (.sb p o k n)
theorem fC_iff {c : CV} {K : CV → Prop} : fC c K ↔ K c := by cases c <;> simp only [fC, fN_iff]
def fCs : List CV → (List CV → Prop) → Prop
  | [], K => K []
  | c :: cs, K => fC c fun c => fCs cs fun cs => K (c :: cs)
theorem fCs_iff : ∀ {cs : List CV} {K : List CV → Prop}, fCs cs K ↔ K cs
  | [], _ => Iff.rfl
  | c :: cs, K => by simp only [fCs, fC_iff, fCs_iff]
def fPs : List (Bool × List CV) → (List (Bool × List CV) → Prop) → Prop
  | [], K => K []
  | (b, cs) :: ps, K => fCs cs fun cs => fPs ps fun ps => K ((b, cs) :: ps)
theorem fPs_iff : ∀ {ps : List (Bool × List CV)} {K : List (Bool × List CV) → Prop}, fPs ps K ↔ K ps
  | [], _ => Iff.rfl
  | (b, cs) :: ps, K => by simp only [fPs, fCs_iff, fPs_iff]
def fS (v : SV) (K : SV → Prop) : Prop :=
  match v with
  | .one c => fC c fun c => K (.one c)
  | .agg cs => fCs cs fun cs => K (.agg cs)
  | .tup ps => fPs ps fun ps => K (.tup ps)
theorem fS_iff {v : SV} {K : SV → Prop} : fS v K ↔ K v := by
  cases v with
  | one c => exact fC_iff (K := fun c => K (.one c))
  | agg cs => exact fCs_iff (K := fun cs => K (.agg cs))
  | tup ps => exact fPs_iff (K := fun ps => K (.tup ps))
def putE (S : St) (d : Option Tmp) (v : SV) (K : St → Prop) : Prop := fS v fun v => K (S.put d v)
theorem putE_iff {S : St} {d : Option Tmp} {v : SV} {K : St → Prop} : putE S d v K ↔ K (S.put d v) := fS_iff

section
variable {tb : TypeId → Option TyI} {S : St}

def binE (tb : TypeId → Option TyI) (op : BinOp) (t : TypeId) (u v : Value) (K : Value → Prop) : Prop :=
  match op, u, v with
  | .shl, .int k a, .int _ b => Need (0 ≤ b) (Pick (fun y => k.wrap (a * 2 ^ (min b.toNat k.bits)) = y) fun y => K (.int k y))
  | .shr, .int k a, .int _ b => Need (0 ≤ b) (Pick (fun y => a.fdiv (2 ^ (min b.toNat k.bits)) = y) fun y => K (.int k y))
  | .add, .int k a, .int k' b => chk (decide (k = k')) (Pick (fun y => k.wrap (a + b) = y) fun y => K (.int k y))
  | .sub, .int k a, .int k' b => chk (decide (k = k')) (Pick (fun y => k.wrap (a - b) = y) fun y => K (.int k y))
  | .mul, .int k a, .int k' b => chk (decide (k = k')) (Pick (fun y => k.wrap (a * b) = y) fun y => K (.int k y))
  | .quo, .int k a, .int k' b => chk (decide (k = k')) (Need (b ≠ 0) (Pick (fun y => k.wrap (a.tdiv b) = y) fun y => K (.int k y)))
  | .rem, .int k a, .int k' b => chk (decide (k = k')) (Need (b ≠ 0) (Pick (fun y => a.tmod b = y) fun y => K (.int k y)))
  | .and, .int k a, .int k' b => chk (decide (k = k')) (Pick (fun y => bits .and k a b = y) fun y => K (.int k y))
  | .or, .int k a, .int k' b => chk (decide (k = k')) (Pick (fun y => bits .or k a b = y) fun y => K (.int k y))
  | .xor, .int k a, .int k' b => chk (decide (k = k')) (Pick (fun y => bits .xor k a b = y) fun y => K (.int k y))
  | .andNot, .int k a, .int k' b => chk (decide (k = k')) (Pick (fun y => bits .andNot k a b = y) fun y => K (.int k y))
  | .eql, .int k a, .int k' b => chk (decide (k = k')) (K (.bool (a == b)))
  | .neq, .int k a, .int k' b => chk (decide (k = k')) (K (.bool (a != b)))
  | .lss, .int k a, .int k' b => chk (decide (k = k')) (K (.bool (decide (a < b))))
  | .leq, .int k a, .int k' b => chk (decide (k = k')) (K (.bool (decide (a ≤ b))))
  | .gtr, .int k a, .int k' b => chk (decide (k = k')) (K (.bool (decide (a > b))))
  | .geq, .int k a, .int k' b => chk (decide (k = k')) (K (.bool (decide (a ≥ b))))
  | .add, .string a, .string b => Need (((a.size + b.size : Nat) : Int) ≤ 9223372036854775807) (Pick (fun s => a ++ b = s) fun s => K (.string s))
  | .eql, .string a, .string b => Pick (fun r : Bool => (a.toList == b.toList) = r) fun r => K (.bool r)
  | .neq, .string a, .string b => Pick (fun r : Bool => (a.toList == b.toList) = r) fun r => K (.bool !r)
  | .lss, .string a, .string b => Pick (fun r : Bool => Op.bytesLess a.toList b.toList = r) fun r => K (.bool r)
  | .leq, .string a, .string b => Pick (fun r : Bool => (Op.bytesLess a.toList b.toList || a.toList == b.toList) = r) fun r => K (.bool r)
  | .gtr, .string a, .string b => Pick (fun r : Bool => (Op.bytesLess a.toList b.toList || a.toList == b.toList) = r) fun r => K (.bool !r)
  | .geq, .string a, .string b => Pick (fun r : Bool => Op.bytesLess a.toList b.toList = r) fun r => K (.bool !r)
  | .eql, .bool a, .bool b => (match tb t with | some { kind := .bool, .. } => K (.bool (a == b)) | _ => False)
  | .neq, .bool a, .bool b => (match tb t with | some { kind := .bool, .. } => K (.bool !(a == b)) | _ => False)
  | _, _, _ => False
theorem binE_ok {op : BinOp} {t : TypeId} {u v : Value} {K K' : Value → Prop} (hk : ∀ r, K r → K' r) (h : binE tb op t u v K) : binD tb op t u v K' := by
  unfold binE at h
  split at h <;> first
    | exact ⟨h.1, hk _ h.2⟩
    | (obtain ⟨h1, y, h2, h3⟩ := h; subst h2; exact ⟨h1, hk _ h3⟩)
    | (obtain ⟨y, h2, h3⟩ := h; subst h2; exact hk _ h3)
    | (obtain ⟨h1, h2⟩ := chk_iff.1 h; exact ⟨of_decide_eq_true h1, hk _ h2⟩)
    | (obtain ⟨h1, y, h2, h3⟩ := chk_iff.1 h; subst h2; exact ⟨of_decide_eq_true h1, hk _ h3⟩)
    | (obtain ⟨h1, h0, y, h2, h3⟩ := chk_iff.1 h; subst h2; exact ⟨of_decide_eq_true h1, h0, hk _ h3⟩)
    | (obtain ⟨h1, h2⟩ := chk_iff.1 h; exact ⟨of_decide_eq_true h1, h2.1, hk _ h2.2⟩)
    | exact hk _ h
    | (split at h
       · rename_i e; simp only [binD, e]; exact hk _ h
       · exact h.elim)
    | exact h.elim

def selE (i : TyI) (cs : List CV) (off : Nat) (K : SV → Prop) : Prop :=
  match i.kind.agg with
  | true => chk (Nat.ble (off + i.size) cs.length) (K (.agg ((cs.drop off).take i.size)))
  | false => match cs[off]? with | some c => K (.one c) | none => False
theorem selE_ok {i : TyI} {cs : List CV} {o : Nat} {K K' : SV → Prop} (hk : ∀ r, K r → K' r) (h : selE i cs o K) : selD i cs o K' := by
  unfold selE at h; unfold selD
  split at h
  · rename_i e; rw [e]
    obtain ⟨h1, h2⟩ := chk_iff.1 h
    exact ⟨Nat.le_of_ble_eq_true h1, hk _ h2⟩
  · rename_i e; rw [e]
    split at h
    · rename_i e; simp only [e]; exact hk _ h
    · exact h.elim
def ptrE (S : St) (c : CV) (K : List CV → Nat → Prop) : Prop :=
  match c with
  | .ptr p o => (match S.L p with | some (.box cs) => K cs o | _ => False)
  | .ep p k i f => (match S.L p with | some (.own k' es) => chk (Nat.beq k k') (Pick (fun cells => es[i]? = some cells) fun cells => K (cells.map .dv) f) | _ => False)
  | .dp c f => K (c.map .dv) f
  | _ => False
theorem ptrE_ok {c : CV} {K : List CV → Nat → Prop} (h : ptrE S c K) : ∃ cs o, ptrCells S c = some (cs, o) ∧ K cs o := by
  unfold ptrE at h
  split at h
  · split at h
    · rename_i e; exact ⟨_, _, by simp only [ptrCells, e], h⟩
    · exact h.elim
  · split at h
    · rename_i e
      obtain ⟨h1, cells, h2, h3⟩ := chk_iff.1 h
      have := Nat.eq_of_beq_eq_true h1; subst this
      exact ⟨_, _, by simp [ptrCells, e, h2], h3⟩
    · exact h.elim
  · exact ⟨_, _, rfl, h⟩
  · exact h.elim

def addN (off : Nat) (n : Nat) : Nat := match off with | 0 => n | o => o + n
theorem addN_eq (off n : Nat) : addN off n = off + n := by unfold addN; split <;> omega
def boundE (S : St) (x : Option Operand) (dflt y : Nat) (K : Nat → Prop) : Prop :=
  match x with
  | none => K dflt
  | some x => mapInt S x fun _ n => Pick (fun m : Nat => n = (m : Int) ∧ m ≤ y) K
theorem boundE_ok {x : Option Operand} {d y : Nat} {K K' : Nat → Prop} (hk : ∀ r, K r → K' r) (h : boundE S x d y K) : boundD S x d y K' := by
  unfold boundE at h; unfold boundD
  split at h
  · exact hk _ h
  · exact mapInt_mono (fun k n h => by obtain ⟨m, ⟨rfl, h1⟩, h2⟩ := h; exact ⟨by omega, hk _ (by simpa using h2)⟩) h
/-- The elements from off on, len of them. -/
def SlOf (es : List (List DV)) (off len : Nat) (ds : List (List DV)) : Prop := off + len ≤ es.length ∧ (es.drop off).take len = ds
theorem SlOf.full {es : List (List DV)} {len : Nat} (h : len = es.length) : SlOf es 0 len es := ⟨by omega, by subst h; simp⟩

def eqFsE (tb : TypeId → Option TyI) (rec : TypeId → SV → SV → (Bool → Prop) → Prop) : List (Nat × TypeId) → List CV → List CV → (Bool → Prop) → Prop
  | [], _, _, K => K true
  | [(off, ft)], cs, ds, K =>
    (match tb ft with
    | some i => selE i cs off fun a => selE i ds off fun b => rec ft a b K
    | none => False)
  | (off, ft) :: rest, cs, ds, K =>
    match tb ft with
    | some i => selE i cs off fun a => selE i ds off fun b => rec ft a b fun r => eqFsE tb rec rest cs ds fun r' => K (r && r')
    | none => False
def eqE (tb : TypeId → Option TyI) : Nat → TypeId → SV → SV → (Bool → Prop) → Prop
  | 0, _, _, _, _ => False
  | n + 1, t, u, v, K =>
    match tb t, u, v with
    | some { kind := .int _, .. }, .one (.dv (.sc (.int k a))), .one (.dv (.sc (.int k' b))) => chk (decide (k = k')) (K (a == b))
    | some { kind := .string, .. }, .one (.dv (.sc (.string a))), .one (.dv (.sc (.string b))) => Pick (fun r : Bool => (a.toList == b.toList) = r) K
    | some { kind := .bool, .. }, .one (.dv (.sc (.bool a))), .one (.dv (.sc (.bool b))) => K (a == b)
    | some { kind := .struct fs, cmp := true, .. }, .agg cs, .agg ds => eqFsE tb (eqE tb n) fs cs ds K
    | _, _, _ => False
theorem eqFsE_ok {rec rec' : TypeId → SV → SV → (Bool → Prop) → Prop} (hrec : ∀ t u v (K K' : Bool → Prop), (∀ b, K b → K' b) → rec t u v K → rec' t u v K') :
    ∀ (fs : List (Nat × TypeId)) (cs ds : List CV) {K K' : Bool → Prop}, (∀ b, K b → K' b) → eqFsE tb rec fs cs ds K → eqFs tb rec' fs cs ds K'
  | [], _, _, _, _, hk, h => hk _ h
  | [(off, ft)], cs, ds, K, K', hk, h => by
    simp only [eqFsE, eqFs] at h ⊢
    split at h
    · rename_i hi; simp only [hi]
      exact selE_ok (fun a h => selE_ok (fun b h => hrec _ _ _ _ _ (fun r h => by simpa using hk _ h) h) h) h
    · exact h.elim
  | (off, ft) :: f2 :: rest, cs, ds, K, K', hk, h => by
    simp only [eqFsE] at h
    unfold eqFs
    split at h
    · rename_i hi; simp only [hi]
      exact selE_ok (fun a h => selE_ok (fun b h => hrec _ _ _ _ _ (fun r h => eqFsE_ok hrec (f2 :: rest) cs ds (fun r' h => hk _ h) h) h) h) h
    · exact h.elim
theorem eqE_ok : ∀ (n : Nat) (t : TypeId) (u v : SV) {K K' : Bool → Prop}, (∀ b, K b → K' b) → eqE tb n t u v K → eqK tb n t u v K'
  | 0, _, _, _, _, _, _, h => h.elim
  | n + 1, t, u, v, K, K', hk, h => by
    unfold eqE at h
    split at h
    · rename_i e; obtain ⟨h1, h2⟩ := chk_iff.1 h; simp only [eqK, e]; exact ⟨of_decide_eq_true h1, hk _ h2⟩
    · rename_i e; obtain ⟨r, h1, h2⟩ := h; subst h1; simp only [eqK, e]; exact hk _ h2
    · rename_i e; simp only [eqK, e]; exact hk _ h
    · rename_i e; simp only [eqK, e]; exact eqFsE_ok (fun t u v K K' => eqE_ok n t u v) _ _ _ hk h
    · exact h.elim

def pickE (q : Bool) (a b : SV) (K : SV → Prop) : Prop := br q (K a) (K b)

def valE (tb : TypeId → Option TyI) (S : St) (op : Op) (K : SV → Prop) : Prop :=
  match op with
  | .move x => K (S.ev x)
  | .assign x => K (S.ev x)
  | .pick c a b => match S.ev c with | .one (.dv (.sc (.bool q))) => br q (K (S.ev a)) (K (S.ev b)) | _ => False
  | .binOp op t x y _ =>
    (match S.ev x, S.ev y with
    | .one (.dv (.sc u)), .one (.dv (.sc v)) => binE tb op t u v fun r => K (.one (.dv (.sc r)))
    | .agg cs, .agg ds =>
      (match op with
      | .eql => eqE tb 20 t (.agg cs) (.agg ds) fun r => K (vB r)
      | .neq => eqE tb 20 t (.agg cs) (.agg ds) fun r => K (vB !r)
      | _ => False)
    | _, _ => False)
  | .unOp op _ x =>
    (match op, S.ev x with
    | .neg, .one (.dv (.sc (.int k n))) => Pick (fun y => k.wrap (0 - n) = y) fun y => K (vI k y)
    | .xor, .one (.dv (.sc (.int k n))) => K (vI k (bits .xor k (if k.signed then -1 else k.max) n))
    | .not, .one (.dv (.sc (.bool b))) => K (vB !b)
    | _, _ => False)
  | .convert src dst x =>
    (match tb src, tb dst with
    | some { kind := .slice e, .. }, some { kind := .string, .. } =>
      (match tb e with
      | some { kind := .int .u8, .. } =>
        (match S.ev x with
        | .one .nil => K (vS ⟨#[]⟩)
        | .one (.dv (.sl es)) => Pick (fun bs : List UInt8 => es = bs.map fun b => [DV.sc (.int .u8 b.toNat)]) fun bs => K (vS ⟨bs.toArray⟩)
        | .one (.os p k off len) => (match S.L p with
          | some (.own k' es) => chk (Nat.beq k k' && Nat.beq k 1) (Pick (fun bs : List UInt8 => SlOf es off len (bs.map fun b => [DV.sc (.int .u8 b.toNat)])) fun bs => K (vS ⟨bs.toArray⟩))
          | _ => False)
        | _ => False)
      | _ => False)
    | some { kind := .string, .. }, some { kind := .string, .. } => (match S.ev x with | .one (.dv (.sc (.string s))) => K (vS s) | _ => False)
    | some { kind := .string, .. }, some _ => False
    | some { kind := .slice _, .. }, some _ => False
    | some _, some { kind := .int k, .. } => (match S.ev x with | .one (.dv (.sc (.int _ n))) => Pick (fun y => k.wrap n = y) fun y => K (vI k y) | _ => False)
    | _, _ => False)
  | .fieldAddr s x f =>
    (match tb s, S.ev x with
    | some { kind := .struct fs, .. }, .one c => (match fs[f]? with | some (off, _) => (match ptrAdd c off with | some c' => K (.one c') | none => False) | none => False)
    | _, _ => False)
  | .field s x f =>
    (match tb s, S.ev x with
    | some { kind := .struct fs, .. }, .agg cs => (match fs[f]? with | some (off, t) => (match tb t with | some i => selE i cs off K | none => False) | none => False)
    | _, _ => False)
  | .indexAddr t x ix => mapInt S ix fun _ n =>
    (match tb t, S.ev x with
    | some { kind := .slice e, .. }, .one (.dv (.sl es)) => (match tb e with
      | some { size := sz, .. } => Pick (fun cells => 0 ≤ n ∧ es[n.toNat]? = some cells) fun cells => chk (Nat.beq cells.length sz) (K (.one (.dp cells 0)))
      | none => False)
    | some { kind := .slice e, .. }, .one (.os p k off len) => (match tb e with | some { size := sz, .. } => chk (Nat.beq sz k) (Need (0 ≤ n ∧ n < (len : Int)) (K (.one (.ep p k (addN off n.toNat) 0)))) | none => False)
    | some { kind := .array m e, .. }, .one c => (match tb e with | some i => Need (0 ≤ n ∧ n < (m : Int)) (match ptrAdd c (n.toNat * i.size) with | some c' => K (.one c') | none => False) | none => False)
    | _, _ => False)
  | .index t x ix => mapInt S ix fun _ n =>
    (match tb t, S.ev x with
    | some { kind := .array m e, .. }, .agg cs => (match tb e with | some i => Need (0 ≤ n ∧ n < (m : Int)) (selE i cs (n.toNat * i.size) K) | none => False)
    | some { kind := .string, .. }, .one (.dv (.sc (.string s))) => Pick (fun b : UInt8 => 0 ≤ n ∧ s[n.toNat]? = some b) fun b => K (vI .u8 b.toNat)
    | _, _ => False)
  | .slice t x lo hi mx =>
    (match mx with
    | none => (match tb t, S.ev x with
      | some { kind := .string, .. }, .one (.dv (.sc (.string s))) => Pick (fun n : Nat => s.size = n) fun n => boundE S hi n n fun h => boundE S lo 0 h fun l => Pick (fun r => s.extract l h = r) fun r => K (vS r)
      | some { kind := .slice e, .. }, .one (.dv (.sl es)) => (match tb e with
        | some { size := sz, .. } => Need (∀ e ∈ es, e.length = sz) (Pick (fun n : Nat => es.length = n) fun n => boundE S hi n n fun h => boundE S lo 0 h fun l => Pick (fun r => (es.take h).drop l = r) fun r => K (.one (.dv (.sl r))))
        | none => False)
      | some { kind := .slice e, .. }, .one (.os p k off len) => (match tb e with
        | some i => chk (Nat.beq i.size k) (boundE S hi len len fun h => boundE S lo 0 h fun l => K (.one (.os p k (off + l) (h - l))))
        | none => False)
      | some { kind := .array m e, .. }, .one (.ptr p o) => (match tb e, lo, hi with
        | some i, none, none => K (.one (.sb p o i.size m))
        | _, _, _ => False)
      | _, _ => False)
    | some _ => False)
  | .extract x ix =>
    (match S.ev x with
    | .tup vs => (match vs[ix]? with | some (true, cs) => K (.agg cs) | some (false, [c]) => K (.one c) | _ => False)
    | _ => False)
  | .nilCheck x =>
    (match S.ev x with
    | .one (.ptr p o) => K (.one (.ptr p o))
    | .one (.ep p k i f) => K (.one (.ep p k i f))
    | .one (.dp c f) => K (.one (.dp c f))
    | .one (.dv (.sc (.func (.func f) u v))) => K (.one (.dv (.sc (.func (.func f) u v))))
    | _ => False)
  | .build t parts =>
    (match tb t with
    | some { kind := .struct fs, zero := z, .. } =>
      chk (!z.isEmpty) (match fillC (fieldPlaceD tb fs) (z.map Z.cv) (parts.toList.map fun p => (p.1, S.ev p.2)) with | some cs => K (.agg cs) | none => False)
    | some { kind := .array _ e, zero := z, .. } =>
      (match tb e with
      | some i => chk (!z.isEmpty) (match fillC (fun j => some (j * i.size, i.size)) (z.map Z.cv) (parts.toList.map fun p => (p.1, S.ev p.2)) with | some cs => K (.agg cs) | none => False)
      | none => False)
    | _ => False)
  | .load t x =>
    (match tb t, S.ev x with
    | some i, .one c => ptrE S c fun cs o => selE i cs o K
    | _, _ => False)
  | .call c =>
    (match c.callee with
    | .builtin .len => (match c.args.toList, c.argTypes.toList with
      | [x], [t] =>
        (match tb t, S.ev x with
        | some { kind := .string, .. }, .one (.dv (.sc (.string s))) => Pick (fun n : Nat => s.size = n) fun n => K (vI .i64 n)
        | some { kind := .slice _, .. }, .one (.dv (.sl es)) => Pick (fun n : Nat => es.length = n) fun n => K (vI .i64 n)
        | some { kind := .slice _, .. }, .one (.os _ _ _ n) => K (vI .i64 n)
        | some { kind := .slice _, .. }, .one .nil => K (vI .i64 0)
        | some { kind := .array n _, .. }, _ => K (vI .i64 n)
        | _, _ => False)
      | _, _ => False)
    | _ => callValD tb S c.callee c.args.toList c.argTypes.toList K)
  | _ => False

theorem valE_ok {op : Op} {K K' : SV → Prop} (hk : ∀ r, K r → K' r) (h : valE tb S op K) : valX tb S op K' := by
  cases op <;> simp only [valE] at h <;> simp only [valX, valD] <;> first
    | exact hk _ h
    | exact h.elim
    | skip
  case call c =>
    split at h
    · rename_i e0
      simp only [callValD, e0]
      split at h
      · rename_i e1 e2; simp only [e1, e2, lenD]
        split at h
        · rename_i e3 e4; simp only [e3, e4]; obtain ⟨n, g1, g2⟩ := h; subst g1; exact hk _ g2
        · rename_i e3 e4; simp only [e3, e4]; obtain ⟨n, g1, g2⟩ := h; subst g1; exact hk _ g2
        · rename_i e3 e4; simp only [e3, e4]; exact hk _ h
        · rename_i e3 e4; simp only [e3, e4]; exact hk _ h
        · rename_i e3; simp only [e3]; exact hk _ h
        · exact h.elim
      · exact h.elim
    · exact callValD_mono hk h
  case pick =>
    split at h
    · rename_i q e; simp only [e]; rw [pickS_eq]
      obtain ⟨h1, h2⟩ := br_iff.1 h
      cases q
      · simpa using hk _ (h2 rfl)
      · simpa using hk _ (h1 rfl)
    · exact h.elim
  case binOp =>
    split at h
    · rename_i e1 e2; simp only [e1, e2]; exact binE_ok (fun _ h => hk _ h) h
    · rename_i e1 e2; simp only [e1, e2]
      split at h
      · exact eqE_ok _ _ _ _ (fun _ h => hk _ h) h
      · exact eqE_ok _ _ _ _ (fun _ h => hk _ h) h
      · exact h.elim
    · exact h.elim
  case unOp =>
    split at h
    · rename_i e; simp only [e]; obtain ⟨y, g1, g2⟩ := h; subst g1; exact hk _ g2
    · rename_i e; simp only [e]; exact hk _ h
    · rename_i e; simp only [e]; exact hk _ h
    · exact h.elim
  case convert s t x =>
    split at h
    · rename_i e _ _ _ _ _ _ _ _ h1 h2
      split at h
      · rename_i h3
        split at h
        · rename_i h4
          simp only [h1, h2, h3, h4, srcD]
          exact ⟨[], rfl, hk _ h⟩
        · rename_i es h4
          obtain ⟨bs, g1, g2⟩ := h
          simp only [h1, h2, h3, h4, srcD]
          exact ⟨by rw [g1]; simp, bs, g1, hk _ g2⟩
        · rename_i p k off len h4
          split at h
          · rename_i k' es h5
            obtain ⟨h6, bs, ⟨g1, g2⟩, g3⟩ := chk_iff.1 h
            simp only [Bool.and_eq_true] at h6
            have e1 := Nat.eq_of_beq_eq_true h6.1
            have e2 := Nat.eq_of_beq_eq_true h6.2
            simp only [h1, h2, h3, h4, srcD, h5]
            exact ⟨⟨e1, e2, g1⟩, bs, g2, hk _ g3⟩
          · exact h.elim
        · exact h.elim
      · exact h.elim
    · rename_i h1 h2
      split at h
      · rename_i h3; simp only [h1, h2, h3]; exact hk _ h
      · exact h.elim
    · exact h.elim
    · exact h.elim
    · rename_i h1 h2
      split at h
      · rename_i h3; simp only [h1, h2, h3]; obtain ⟨y, g1, g2⟩ := h; subst g1; exact hk _ g2
      · exact h.elim
    · exact h.elim
  case fieldAddr =>
    split at h
    · rename_i e1 e2; simp only [e1, e2]
      split at h
      · rename_i e3; simp only [e3]
        split at h
        · rename_i e4; simp only [e4]; exact hk _ h
        · exact h.elim
      · exact h.elim
    · exact h.elim
  case field =>
    split at h
    · rename_i e1 e2; simp only [e1, e2]
      split at h
      · rename_i e3; simp only [e3]
        split at h
        · rename_i e4; simp only [e4]; exact selE_ok hk h
        · exact h.elim
      · exact h.elim
    · exact h.elim
  case indexAddr =>
    refine mapInt_mono (fun k n h => ?_) h
    split at h
    · rename_i e1 e2; simp only [e1, e2]
      split at h
      · rename_i e3; simp only [e3]
        obtain ⟨cells, ⟨g1, g2⟩, g3⟩ := h
        obtain ⟨g4, g5⟩ := chk_iff.1 g3
        have g6 : ∀ es : List (List DV), es[n.toNat]? = some cells → es.getD n.toNat [] = cells := fun es h => by simp [List.getD, h]
        have g7 := (List.getElem?_eq_some_iff.1 g2).1
        rw [g6 _ g2]
        exact ⟨⟨⟨g1, by omega⟩, Nat.eq_of_beq_eq_true g4⟩, hk _ g5⟩
      · exact h.elim
    · rename_i e1 e2; simp only [e1, e2]
      split at h
      · rename_i e3; simp only [e3]
        obtain ⟨g1, g2⟩ := chk_iff.1 h
        exact ⟨Nat.eq_of_beq_eq_true g1, g2.1, by rw [← addN_eq]; exact hk _ g2.2⟩
      · exact h.elim
    · rename_i e1 e2; simp only [e1, e2]
      split at h
      · rename_i e3; simp only [e3]
        refine ⟨h.1, ?_⟩
        replace h := h.2
        split at h
        · rename_i e4; simp only [e4]; exact hk _ h
        · exact h.elim
      · exact h.elim
    · exact h.elim
  case index =>
    refine mapInt_mono (fun k n h => ?_) h
    split at h
    · rename_i e1 e2; simp only [e1, e2]
      split at h
      · rename_i e3; simp only [e3]; exact ⟨h.1, selE_ok hk h.2⟩
      · exact h.elim
    · rename_i e1 e2; simp only [e1, e2]
      obtain ⟨b, ⟨g1, g2⟩, g3⟩ := h
      exact ⟨g1, by simp only [g2]; exact hk _ g3⟩
    · exact h.elim
  case slice =>
    split at h
    · split at h
      · rename_i e1 e2; simp only [e1, e2]; obtain ⟨n, g1, h⟩ := h; subst g1; exact ⟨trivial, boundE_ok (fun _ h => boundE_ok (fun _ h => by obtain ⟨r, g2, g3⟩ := h; subst g2; exact hk _ g3) h) h⟩
      · rename_i e1 e2; simp only [e1, e2]
        split at h
        · rename_i e3; simp only [e3]; obtain ⟨h0, n, g1, h⟩ := h; subst g1; exact ⟨h0, trivial, boundE_ok (fun _ h => boundE_ok (fun _ h => by obtain ⟨r, g2, g3⟩ := h; subst g2; exact hk _ g3) h) h⟩
        · exact h.elim
      · rename_i e1 e2; simp only [e1, e2]
        split at h
        · rename_i e3; simp only [e3]
          obtain ⟨g1, g2⟩ := chk_iff.1 h
          exact ⟨Nat.eq_of_beq_eq_true g1, trivial, boundE_ok (fun _ h => boundE_ok (fun _ h => hk _ h) h) g2⟩
        · exact h.elim
      · rename_i e1 e2; simp only [e1, e2]
        split at h
        · rename_i e3; simp only [e3]; exact ⟨⟨trivial, trivial, trivial⟩, hk _ h⟩
        · exact h.elim
      · exact h.elim
    · exact h.elim
  case extract =>
    split at h
    · rename_i e1; simp only [e1]
      split at h
      · rename_i e2; simp only [e2]; exact hk _ h
      · rename_i e2; simp only [e2]; exact hk _ h
      · exact h.elim
    · exact h.elim
  case nilCheck =>
    split at h <;> first
      | (rename_i e; simp only [e]; exact hk _ h)
      | exact h.elim
  case build =>
    split at h
    · rename_i e1; simp only [e1]
      obtain ⟨h0, h⟩ := chk_iff.1 h
      split at h
      · rename_i e2; simp only [e2]; exact ⟨by simpa using h0, hk _ h⟩
      · exact h.elim
    · rename_i e1; simp only [e1]
      split at h
      · rename_i e2; simp only [e2]
        obtain ⟨h0, h⟩ := chk_iff.1 h
        split at h
        · rename_i e3; simp only [e3]; exact ⟨by simpa using h0, hk _ h⟩
        · exact h.elim
      · exact h.elim
    · exact h.elim
  case load =>
    split at h
    · rename_i e1 e2; simp only [e1, e2]
      obtain ⟨cs, o, g1, g2⟩ := ptrE_ok h
      simp only [g1]
      exact selE_ok hk g2
    · exact h.elim
end
end Go.Proofs.Ytoklfidamhigcaa.D
