/- The operations that make rows, or write to them: their answers. -/
import Derived.Laws.BytesString
import Derived.Test.YtpdjehnlejjfmaaJ1
set_option linter.unusedVariables false
set_option linter.unusedSimpArgs false
namespace Go.Proofs.Ytpdjehnlejjfmaa.D
open Go.RowKit

theorem Rd.one {V : View} {v : Value} {d : DV} (h : Rd V v d) : v.oneCell' = true := by
 cases h with
 | sc _ h => exact h
 | nil => rfl
 | sl => rfl

def chunks (k : Nat) : Nat → List DV → List (List DV)
 | 0, _ => []
 | n + 1, ds => ds.take k :: chunks k n (ds.drop k)
theorem chunks_length (k : Nat) : ∀ n ds, (chunks k n ds).length = n
 | 0, _ => rfl
 | n + 1, ds => by simp [chunks, chunks_length k n]
theorem chunks_flat {V : View} (k : Nat) : ∀ (n : Nat) (ds : List DV) (us : List Value), RdL V us ds → ds.length = n * k → FlatR V k (chunks k n ds) us
 |0, ds, us, h, hl => by
  have := h.length
  have : us = [] := by cases us with | nil => rfl | cons _ _ => simp at this; omega
  subst this; exact .nil V k
 |n + 1, ds, us, h, hl => by
  have hul := h.length
  rw [Nat.add_mul] at hl; simp at hl
  have h1 : RdL V (us.drop k) (ds.drop k) := by
   have : ∀ (m : Nat) {us : List Value} {ds : List DV}, RdL V us ds → RdL V (us.drop m) (ds.drop m) := by
    intro m
    induction m with
    | zero => intro us ds h; simpa using h
    |succ m ih => intro us ds h; cases h with
     | nil => simp; exact .nil
     | cons _ t => simpa using ih t
   exact this k h
  have ih := chunks_flat k n (ds.drop k) (us.drop k) h1 (by simp; omega)
  have h0 : FlatR V k [ds.take k] (us.take k) := by
   refine ⟨by simp; omega, by simp; omega, fun i j hi hj => ?_⟩
   simp at hi; subst hi
   simp only [List.getElem_cons_zero, List.length_take] at hj ⊢
   obtain ⟨v, h2, h3⟩ := h.get j (by omega)
   exact ⟨v, by rw [Nat.zero_mul, Nat.zero_add, List.getElem?_take, if_pos (by omega)]; exact h2, by simpa using h3⟩
  have := h0.append ih
  simpa [chunks] using this
def cvDs : List CV → Option (List DV)
 | [] => some []
 | .dv d :: r => (cvDs r).map (d :: ·)
 | _ => none
theorem cvDs_ok {V : View} {bs : Loc} {cs : List CV} {vs : List Value} (h : CRs V bs cs vs) : ∀ {ds : List DV}, cvDs cs = some ds → RdL V vs ds := by
 induction h with
 | nil => intro ds hd; simp [cvDs] at hd; subst hd; exact .nil
 | cons h _ ih =>
  intro ds hd
  unfold cvDs at hd
  split at hd
  ·rename_i e; simp at e
  ·rename_i e
   injection e with e1 e2; subst e1; subst e2
   simp only [Option.map_eq_some_iff] at hd
   obtain ⟨ds', h1, rfl⟩ := hd
   cases h with | dv h => exact .cons h (ih h1)
  ·simp at hd

def TK.seq : TK → Bool | .slice _ => true | .string => true | _ => false

def outN (p nm : Nat) : Nat := TKN * (rt p + 1) + nm
def St.takeOut (S : St) (p i j : Nat) : St := match S.L p with
 | some (.own k es) => (S.killH p).new p (.own k (es.set i ((es.getD i []).set j .no)))
 | _ => S
def eatD (S : St) (p size : Nat) (v : SV) (K : Nat → Nat → List (List DV) → Prop) : Prop :=
 match v with
 |.one (.os (.v q) k off len) => (match S.L q with
  | some (.own k' es) => (k = k' ∧ k = size ∧ off + len ≤ es.length ∧ q ≠ p ∧ newN q) ∧ K q off ((es.drop off).take len)
  | _ => False)
 | _ => False
def appD (tb : TypeId → Option TyI) (nm : Nat) (S : St) (dst : Option Tmp) (s x : Operand) (t t' : TypeId) (K : St → Prop) : Prop :=
 match tb t with
 | some { kind := .slice e, .. } =>
  match tb e, tb t' with
  |some i, some i' => (i'.kind.seq = true ∧ i.zero ≠ []) ∧
   match S.ev s with
   | .one .nil => (S.L nm = none ∧ 1000 ≤ nm) ∧ srcD S i.size (S.ev x) fun news =>
     ((2 * news.length + 1024) * i.bytes ≤ 2 ^ 48 ∧ news.length ≤ 2 ^ 48) ∧ K ((S.new nm (.own i.size news)).put dst (.one (.os (.v nm) i.size 0 news.length)))
   | .one (.os (.v p) k 0 len) =>
    (match S.L p with
    |some (.own k' es) => (k = i.size ∧ k' = k ∧ len ≤ es.length) ∧
     ((srcD S i.size (S.ev x) fun news =>
      ((2 * (len + news.length) + 1024) * i.bytes ≤ 2 ^ 48 ∧ len + news.length ≤ 2 ^ 48) ∧ K ((((S.kill p).new p (.own k (es.take len ++ news))).mov p).put dst (.one (.os (.v p) k 0 (len + news.length))))) ∨
     (eatD S p i.size (S.ev x) fun q _ news => (0 < news.length ∧ (2 * (len + news.length) + 1024) * i.bytes ≤ 2 ^ 48 ∧ len + news.length ≤ 2 ^ 48) ∧
      K (((((S.frz q).kill p).new p (.own k (es.take len ++ news))).mov p).put dst (.one (.os (.v p) k 0 (len + news.length))))))
    | _ => False)
   | .one (.os (.h p i1 j1) k 0 len) =>
    (match S.Lx (.h p i1 j1) with
    | some (k', es) => (k = i.size ∧ k' = k ∧ len ≤ es.length ∧ S.L (outN p nm) = none ∧ nm < TKN) ∧ srcD S i.size (S.ev x) fun news =>
     (0 < news.length ∧ (2 * (len + news.length) + 1024) * i.bytes ≤ 2 ^ 48 ∧ len + news.length ≤ 2 ^ 48) ∧ K (((S.takeOut p i1 j1).new (outN p nm) (.own k (es.take len ++ news))).put dst (.one (.os (.v (outN p nm)) k 0 (len + news.length))))
    | _ => False)
   | .one (.sb p o k n) =>
    (match S.L p with
    |some (.box cs) => (match cvDs ((cs.drop o).take (n * k)) with
     | some ds => (k = i.size ∧ ds.length = n * k ∧ S.L nm = none ∧ 1000 ≤ nm) ∧ srcD S i.size (S.ev x) fun news =>
      (0 < news.length ∧ (2 * (n + news.length) + 1024) * i.bytes ≤ 2 ^ 48 ∧ n + news.length ≤ 2 ^ 48) ∧ K ((S.new nm (.own k (chunks k n ds ++ news))).put dst (.one (.os (.v nm) k 0 (n + news.length))))
     | none => False)
    | _ => False)
   | _ => False
  | _, _ => False
 | _ => False

section
variable {P : Program} (tb : Tab P) {w0 : World} {M : Rows0} {N : Nat} {V V0 : View} {bs : Loc} {S : St} {a : Act} {w : World}

theorem Sat1.mov (h : Sat1 w0 M N V bs S a w) (p : Nat) : Sat1 w0 M N V bs (S.mov p) a w :=
 { h with par := fun q r hq hlt hmv => h.par q r hq hlt fun hm => hmv (List.mem_cons_of_mem _ hm), dom := h.dom, rows := h.rows, tmps := h.tmps }
theorem Sat1.shrink (h : Sat1 w0 M N V bs S a w) {p k : Nat} {es : List (List DV)} (hL : S.L p = some (.own k es)) (n : Nat) : Sat1 w0 M N V bs (S.new p (.own k (es.take n))) a w := by
 refine ⟨h.keep, h.view, h.apart, h.inj, h.fresh, fun q r hq hlt hmv => ?_, h.ml, fun q hq => ?_, fun q r hq => ?_, h.tmps, h.defers, h.nt⟩
 ·by_cases e : q = p
  ·subst e; exact h.par q _ hL hlt hmv
  ·simp only [St.new, upd_ne _ _ _ _ e] at hq; exact h.par q r hq hlt hmv
 ·by_cases e : q = p
  ·subst e; simp [St.new] at hq
  ·simp only [St.new, upd_ne _ _ _ _ e] at hq; exact h.dom q hq
 ·by_cases e : q = p
  ·subst e; simp [St.new] at hq; subst hq
   rcases h.rows q _ hL with ⟨b, m, h1, h2, h3, h4, h5⟩ | ⟨h1, k', h2⟩
   ·refine .inl ⟨b, m, h1, ?_, h3, fun i hi => ?_, fun i j hi hj => ?_⟩
    ·exact Nat.le_trans (Nat.mul_le_mul_right k (by simp; omega)) h2
    ·simp at hi; simp only [List.getElem_take]; exact h4 i (by omega)
    ·simp at hi
     have he : (es.take n)[i]'(by simpa using hi) = es[i]'(by omega) := List.getElem_take
     obtain ⟨v, h6, h7⟩ := h5 i j (by omega) (by rw [← he]; exact hj)
     exact ⟨v, h6, by simp only [he]; exact h7⟩
   ·injection h2 with h2 h3; subst h3; exact .inr ⟨h1, k, by simp⟩
  ·simp only [St.new, upd_ne _ _ _ _ e] at hq; exact h.rows q r hq

theorem kill_new {S : St} {p k : Nat} {es : List (List DV)} : (S.new p (.own k es)).kill p = (S.kill p).new p (.own k es) := by
 simp only [St.kill, St.new, St.mapC]
 congr 1
 funext q
 by_cases e : q = p
 ·subst e; simp [mapR]
 ·simp [upd_ne _ _ _ _ e]

def eatS (S : St) : Option (Nat × Nat) → St | some (q, _) => S.frz q | none => S
def eatL (bs : Loc) : Option (Nat × Nat) → Loc | some (q, _) => fun nm => if nm.top = q then none else bs nm | none => bs
def eatN : Option (Nat × Nat) → Nat → Nat → Option Nm | some (q, off), m, j => some (.h q (m + off) j) | none, _, _ => none
theorem eatN_some {qo : Option (Nat × Nat)} {m j : Nat} {z : Nm} (h : eatN qo m j = some z) : ∃ q off, qo = some (q, off) ∧ z = .h q (m + off) j := by
 cases qo with
 | none => simp [eatN] at h
 | some x => obtain ⟨q, off⟩ := x; simp [eatN] at h; exact ⟨q, off, rfl, h.symm⟩
theorem Sat1.appended (h : Sat1 w0 M N V bs S a w) {p k : Nat} {es : List (List DV)} (hL : S.L p = some (.own k es)) {len : Nat} (hle : len ≤ es.length) (qo : Option (Nat × Nat)) (hq : ∀ q off, qo = some (q, off) → q ≠ p ∧ newN q)
  {news : List (List DV)} {w' : World} (hos : w'.os = w.os) (hot : w'.tape = w.tape) (hou : w'.output = w.output) (hsz : w.heap.size ≤ w'.heap.size) {b' n' : Nat}
  (hloc : bs (.v p) = some (b', n') ∨ (b' = w.heap.size ∧ b' < w'.heap.size)) (hblk : ∀ k, k < w.heap.size → (∀ n, bs (.v p) ≠ some (k, n)) → w'.heap[k]? = w.heap[k]?)
  (h1 : (len + news.length) * k ≤ n') (h2 : ∀ j, j < n' → (w'.cell? ⟨b', j, none⟩).isSome ∧ w'.frozen? ⟨b', j, none⟩ = false) (h3 : ∀ e ∈ news, e.length = k)
  (h4 : ∀ i j (hi : i < es.length) (hj : j < es[i].length), i < len → ∃ v, w'.cell? ⟨b', i * k + j, none⟩ = some v ∧ CellR V bs w (.h p i j) v es[i][j])
  (h5 : ∀ i j (hi : i < news.length) (hj : j < news[i].length), ∃ v, w'.cell? ⟨b', (len + i) * k + j, none⟩ = some v ∧ (qo = none → Rd V v news[i][j]) ∧ ∀ q off, qo = some (q, off) → CellR V bs w (.h q (off + i) j) v news[i][j]) :
  ∃ bs', bs' (.v p) = some (b', n') ∧ Sat1 w0 M N V bs' ((((eatS S qo).kill p).new p (.own k (es.take len ++ news))).mov p) a w' := by
 let bs1 : Loc := eatL bs qo
 let S0 : St := eatS S qo
 have hbs1 : ∀ nm : Nm, (∀ q off, qo = some (q, off) → nm.top ≠ q) → bs1 nm = bs nm := fun nm hnm => by
  cases qo with
  | none => rfl
  | some x => obtain ⟨q, off⟩ := x; simp only [bs1, eatL]; rw [if_neg (hnm q off rfl)]
 have hbs1' : ∀ nm x, bs1 nm = some x → bs nm = some x ∧ ∀ q off, qo = some (q, off) → nm.top ≠ q := fun nm x hx => by
  cases qo with
  | none => exact ⟨hx, fun q off h => by simp at h⟩
  | some y =>
   obtain ⟨q, off⟩ := y
   simp only [bs1, eatL] at hx
   split at hx
   ·simp at hx
   ·rename_i hn; exact ⟨hx, fun q' off' h => by simp at h; rw [← h.1]; exact hn⟩
 have hf0 : ∀ q off, qo = some (q, off) → ∀ c v, CR V bs c v → CR V bs1 (killC q c) v := fun q off e c v hc => killC_ok (View.le.refl V) (fun nm hnm x hx => by rw [hbs1 nm (fun q' off' e' => by rw [e] at e'; simp at e'; rw [← e'.1]; exact hnm)]; exact hx) hc
 have F1 : ∀ t, VR V bs1 (S0.T t) (a.tmps.getD t undef) := fun t => by
  cases qo with
  | none => exact h.tmps t
  | some y => obtain ⟨q, off⟩ := y; exact (h.tmps t).map (hf0 q off rfl)
 have F2 : ∀ r row, S0.L r = some row → (∃ row0, S.L r = some row0) ∧ ((∃ b n, bs (.v r) = some (b, n) ∧ RowSat V bs1 w r b n row) ∨ (bs (.v r) = none ∧ ∃ k, row = .own k [])) ∧ ∀ q off, qo = some (q, off) → r ≠ q := fun r row hr => by
  cases qo with
  | none => exact ⟨⟨_, hr⟩, h.rows r row hr, fun q off e => by simp at e⟩
  | some y =>
   obtain ⟨q, off⟩ := y
   by_cases e : r = q
   ·subst e; simp [S0, eatS, St.frz] at hr
   ·simp only [S0, eatS, St.frz, upd_ne _ _ _ _ e] at hr
    obtain ⟨row0, g1, rfl⟩ := mapC_some hr
    refine ⟨⟨_, g1⟩, ?_, fun q' off' e' => by simp at e'; rw [← e'.1]; exact e⟩
    exact (h.rows r row0 g1).imp (fun ⟨b, n, g2, g3⟩ => ⟨b, n, g2, g3.map (View.le.refl V) (hf0 q off rfl) fun i j => hbs1 _ (fun q' off' e' => by simp at e'; rw [← e'.1]; exact e)⟩) (fun ⟨g2, k, g3⟩ => ⟨g2, k, by rw [g3]; rfl⟩)
 have F3 : ∀ r, S0.L r = none → S.L r = none ∨ ∃ off, qo = some (r, off) := fun r hr => by
  cases qo with
  | none => exact .inl hr
  | some y =>
   obtain ⟨q, off⟩ := y
   by_cases e : r = q
   ·subst e; exact .inr ⟨off, rfl⟩
   ·simp only [S0, eatS, St.frz, upd_ne _ _ _ _ e] at hr; exact .inl (St.mapC_none.1 hr)
 have F4 : S0.mv = S.mv := by cases qo <;> rfl
 have hpq : ∀ q off, qo = some (q, off) → q ≠ p := fun q off e => (hq q off e).1
 let src : Nm → Option Nm := fun nm => match nm with
  | .v r => if r = p then (if bs (.v p) = some (b', n') then some (.v p) else none) else bs1 (.v r) |>.map fun _ => .v r
  | .h r i j => if r = p then (if i < len then some (.h p i j) else eatN qo (i - len) j) else (bs1 (.h r i j)).map fun _ => .h r i j
 let bs' : Loc := fun nm => match nm with
  | .v r => if r = p then some (b', n') else bs1 (.v r)
  | .h r i j => if r = p then (if i < len then bs (.h p i j) else (eatN qo (i - len) j).bind bs) else bs1 (.h r i j)
 have hbv : bs' (.v p) = some (b', n') := by simp [bs']
 have hbo : ∀ nm : Nm, nm.top ≠ p → bs' nm = bs1 nm := fun nm hnm => by cases nm <;> (simp only [Nm.top] at hnm; simp [bs', hnm])
 refine ⟨bs', hbv, ?_⟩
 have hkill : ∀ c v, CR V bs1 c v → CR V bs' (killC p c) v := fun c v hc => killC_ok (View.le.refl V) (fun nm hnm x hx => by rw [hbo nm hnm]; exact hx) hc
 have hnb : ∀ nm b n, bs nm = some (b, n) → nm ≠ .v p → w'.heap[b]? = w.heap[b]? := fun nm b n hb hn => hblk b (h.fresh _ _ _ hb).2 fun m hm => hn (h.inj _ _ _ _ _ hb hm)
 refine h.ren (fun x v hx => .inl hx) hos hot hou hsz (fun k hk => ?_) src (fun x y z e1 e2 => ?_) (.v p) (fun nm b n hb => ?_) (fun r row hr hlt hmv => ?_) (fun r hr => ?_) (fun r row hr => ?_) (fun t => (F1 t).map hkill)
 ·by_cases e : ∃ n, bs (.v p) = some (k, n)
  ·obtain ⟨n, e⟩ := e; exact .inr ⟨_, _, e⟩
  ·exact .inl (hblk k hk fun n hn => e ⟨n, hn⟩)
 ·-- one name, one source
  have key : ∀ x z, src x = some z → (x.top = p ∧ z.top = p ∧ x = z ∧ (∀ i j, x = .h p i j → i < len)) ∨ (x.top = p ∧ ∃ i j q off, x = .h p i j ∧ ¬ i < len ∧ qo = some (q, off) ∧ z = .h q (i - len + off) j) ∨ (x.top ≠ p ∧ x = z ∧ ∀ q off, qo = some (q, off) → x.top ≠ q) := fun x z e => by
   cases x with
   | v r =>
    simp only [src] at e
    split at e
    ·rename_i hr; subst hr
     split at e
     ·simp at e; subst e; exact .inl ⟨rfl, rfl, rfl, fun i j h => by simp at h⟩
     ·simp at e
    ·rename_i hr
     simp only [Option.map_eq_some_iff] at e
     obtain ⟨y, g1, rfl⟩ := e
     exact .inr (.inr ⟨hr, rfl, (hbs1' _ _ g1).2⟩)
   | h r i j =>
    simp only [src] at e
    split at e
    ·rename_i hr; subst hr
     split at e
     ·rename_i hi; simp at e; subst e; exact .inl ⟨rfl, rfl, rfl, fun i' j' h => by simp at h; omega⟩
     ·rename_i hi
      obtain ⟨q, off, g1, g2⟩ := eatN_some e
      exact .inr (.inl ⟨rfl, i, j, q, off, rfl, hi, g1, g2⟩)
    ·rename_i hr
     simp only [Option.map_eq_some_iff] at e
     obtain ⟨y, g1, rfl⟩ := e
     exact .inr (.inr ⟨hr, rfl, (hbs1' _ _ g1).2⟩)
  rcases key x z e1 with ⟨a1, a2, a3, a4⟩ | ⟨a1, i, j, q, off, a2, a3, a4, a5⟩ | ⟨a1, a2, a3⟩ <;> rcases key y z e2 with ⟨c1, c2, c3, c4⟩ | ⟨c1, i', j', q', off', c2, c3, c4, c5⟩ | ⟨c1, c2, c3⟩
  ·rw [a3, c3]
  ·exfalso; rw [c5] at a2; exact hpq _ _ c4 a2
  ·exfalso; rw [c2] at c1; exact c1 a2
  ·exfalso; rw [a5] at c2; exact hpq _ _ a4 c2
  ·rw [a4] at c4; simp at c4; obtain ⟨rfl, rfl⟩ := c4
   rw [a5] at c5; simp at c5
   rw [a2, c2]; simp; exact ⟨by omega, c5.2⟩
  ·exfalso; exact c3 _ _ a4 (by rw [c2, a5]; rfl)
  ·exfalso; rw [a2] at a1; exact a1 c2
  ·exfalso; exact a3 _ _ c4 (by rw [a2, c5]; rfl)
  ·rw [a2, c2]
 ·-- where it was
  cases nm with
  | v r =>
   by_cases e : r = p
   ·subst e
    rw [hbv] at hb; simp at hb; obtain ⟨rfl, rfl⟩ := hb
    rcases hloc with hl | ⟨hl1, hl2⟩
    ·exact .inl ⟨.v r, n', by simp [src, hl], hl, .inl rfl⟩
    ·exact .inr ⟨rfl, hl1, hl2⟩
   ·rw [hbo (.v r) e] at hb
    exact .inl ⟨.v r, n, by simp [src, e, hb], (hbs1' _ _ hb).1, .inl rfl⟩
  | h r i j =>
   by_cases e : r = p
   ·subst e
    simp only [bs', if_true] at hb
    split at hb
    ·rename_i hi; exact .inl ⟨.h r i j, n, by simp [src, hi], hb, .inl rfl⟩
    ·rename_i hi
     cases hz : eatN qo (i - len) j with
     | none => rw [hz] at hb; simp at hb
     | some z =>
      rw [hz] at hb
      obtain ⟨q, off, g1, rfl⟩ := eatN_some hz
      exact .inl ⟨_, n, by simp [src, hi, hz], hb, .inr (newN_fresh (nm := .h q (i - len + off) j) h (hq q off g1).2 hb)⟩
   ·rw [hbo (.h r i j) e] at hb
    exact .inl ⟨.h r i j, n, by simp [src, e, hb], (hbs1' _ _ hb).1, .inl rfl⟩
 ·have e : r ≠ p := fun e => hmv (by simp [St.mov, e])
  rw [hbo (.v r) e]
  have hr : (S0.kill p).L r = some row := by have hr : (upd (S0.kill p).L p (some (.own k (es.take len ++ news)))) r = some row := hr; rwa [upd_ne _ _ _ _ e] at hr
  obtain ⟨row0, g1, _⟩ := mapC_some hr
  obtain ⟨⟨row1, g2⟩, _, g3⟩ := F2 r row0 g1
  rw [hbs1 (.v r) g3]
  exact h.par r row1 g2 hlt fun hm => hmv (by show r ∈ p :: S0.mv; rw [F4]; exact List.mem_cons_of_mem _ hm)
 ·have e : r ≠ p := by rintro rfl; simp [St.mov, St.new] at hr
  have hr : (S0.kill p).L r = none := by have hr : (upd (S0.kill p).L p (some (.own k (es.take len ++ news)))) r = none := hr; rwa [upd_ne _ _ _ _ e] at hr
  rw [hbo (.v r) e]
  rcases F3 r (St.mapC_none.1 hr) with g | ⟨off, g⟩
  ·have := h.dom r g
   refine ⟨?_, fun i j => ?_⟩
   ·cases hx : bs1 (.v r) with
    | none => rfl
    | some x => rw [(hbs1' _ _ hx).1] at this; simp at this
   ·rw [hbo (.h r i j) e]
    cases hx : bs1 (.h r i j) with
    | none => rfl
    | some x => have h7 := this.2 i j; rw [(hbs1' _ _ hx).1] at h7; simp at h7
  ·refine ⟨?_, fun i j => ?_⟩
   ·cases hx : bs1 (.v r) with
    | none => rfl
    | some x => exact absurd rfl ((hbs1' _ _ hx).2 r off g)
   ·rw [hbo (.h r i j) e]
    cases hx : bs1 (.h r i j) with
    | none => rfl
    | some x => exact absurd rfl ((hbs1' _ _ hx).2 r off g)
 ·by_cases e : r = p
  ·subst e
   have hr : (upd (S0.kill r).L r (some (.own k (es.take len ++ news)))) r = some row := hr
   simp at hr; subst hr
   have hlt : (es.take len).length = len := by simp; omega
   have hk : ∀ i (hi : i < es.length), es[i].length = k := fun i hi => by
    rcases h.rows r _ hL with ⟨b, n, _, _, _, g, _⟩ | ⟨_, k0, g⟩
    ·exact g i hi
    ·simp at g; obtain ⟨_, rfl⟩ := g; simp at hi
   refine .inl ⟨b', n', hbv, by rw [List.length_append, hlt]; exact h1, h2, fun i hi => ?_, fun i j hi hj => ?_⟩
   ·simp only [List.getElem_append]
    split
    ·rw [List.getElem_take]; exact hk _ _
    ·exact h3 _ (List.getElem_mem _)
   ·by_cases hi2 : i < len
    ·have he : (es.take len ++ news)[i] = es[i]'(by omega) := by rw [List.getElem_append_left (by omega), List.getElem_take]
     obtain ⟨v, g1, g2⟩ := h4 i j (by omega) (by rw [← he]; exact hj) hi2
     refine ⟨v, g1, ?_⟩
     simp only [he]
     exact g2.mono (View.le.refl V) (by simp only [bs', if_true, hi2]) (fun b n hb => hnb _ _ _ hb (by simp))
    ·have hi3 : i - len < news.length := by rw [List.length_append, hlt] at hi; omega
     have he : (es.take len ++ news)[i] = news[i - len] := by rw [List.getElem_append_right (by omega)]; simp only [hlt]
     obtain ⟨v, g1, g2, g3⟩ := h5 (i - len) j hi3 (by rw [← he]; exact hj)
     rw [show len + (i - len) = i by omega] at g1
     refine ⟨v, g1, ?_⟩
     simp only [he]
     cases hqo : qo with
     | none => exact .rd (g2 hqo)
     | some y =>
      obtain ⟨q, off⟩ := y
      refine (g3 q off hqo).mono (View.le.refl V) ?_ (fun b n hb => hnb _ _ _ hb (by simp))
      simp only [bs', if_true, hi2, if_false, hqo, eatN, Option.bind_some]
      rw [Nat.add_comm (i - len) off]
  ·have hr : (S0.kill p).L r = some row := by have hr : (upd (S0.kill p).L p (some (.own k (es.take len ++ news)))) r = some row := hr; rwa [upd_ne _ _ _ _ e] at hr
   obtain ⟨row0, g1, rfl⟩ := mapC_some hr
   obtain ⟨_, g2, g3⟩ := F2 r row0 g1
   rw [hbo (.v r) e, hbs1 (.v r) g3]
   refine g2.imp (fun ⟨b, n, g4, g5⟩ => ⟨b, n, g4, ?_⟩) (fun ⟨g4, k, g5⟩ => ⟨g4, k, by rw [g5]; rfl⟩)
   exact (g5.mono (View.le.refl V) (fun _ _ h => h) (fun _ _ => rfl) (hnb _ _ _ g4 (by simpa using e)) (fun i j b n hb => hnb _ _ _ (hbs1' _ _ hb).1 (by simp))).map (View.le.refl V) hkill fun i j => hbo (.h r i j) e

theorem flat_cells {V : View} {k : Nat} {es : List (List DV)} {us : List Value} (hf : FlatR V k es us) : ∀ u ∈ us, u.oneCell' = true := by
 intro u hu
 obtain ⟨j, hj, rfl⟩ := List.mem_iff_getElem.1 hu
 obtain ⟨h1, h2, h3⟩ := hf
 have hk0 : 0 < k := by rcases Nat.eq_zero_or_pos k with h | h; rw [h1, h] at hj; simp at hj; exact h
 rw [h1] at hj
 have hi : j / k < es.length := Nat.div_lt_of_lt_mul (by rw [Nat.mul_comm]; exact hj)
 obtain ⟨u, h4, h5⟩ := h3 (j / k) (j % k) hi (by rw [h2 _ (List.getElem_mem hi)]; exact Nat.mod_lt _ hk0)
 have : j / k * k + j % k = j := by rw [Nat.mul_comm]; exact Nat.div_add_mod j k
 rw [this] at h4
 rw [List.getElem?_eq_getElem (by rw [h1]; exact hj)] at h4
 injection h4 with h4
 rw [h4]; exact h5.one

end
end Go.Proofs.Ytpdjehnlejjfmaa.D
/- Own slices that go into a row, or are taken out of it. -/
namespace Go.Proofs.Ytpdjehnlejjfmaa.D
open Go.RowKit

def St.gone (S : St) : List (Option Nat) → St
 | [] => S
 | none :: qs => S.gone qs
 | some q :: qs => (S.frz q).gone qs
def goneL (bs : Loc) (qs : List (Option Nat)) : Loc := fun nm => if some nm.top ∈ qs then none else bs nm
section
variable {P : Program} {w0 : World} {M : Rows0} {N : Nat} {V V0 : View} {bs : Loc} {S : St} {a : Act} {w : World}

structure Part (V : View) (bs : Loc) (w : World) (S : St) (a : Act) : Prop where
 tm : ∀ t, VR V bs (S.T t) (a.tmps.getD t undef)
 rows : ∀ p r, S.L p = some r → (∃ b n, bs (.v p) = some (b, n) ∧ RowSat V bs w p b n r) ∨ (bs (.v p) = none ∧ ∃ k, r = .own k [])
 dom : ∀ p, S.L p = none → bs (.v p) = none ∧ ∀ i j, bs (.h p i j) = none
theorem Sat1.part (h : Sat1 w0 M N V bs S a w) : Part V bs w S a := ⟨h.tmps, h.rows, h.dom⟩
theorem Part.loc (h : Part V bs w S a) {bs' : Loc} (e : bs = bs') : Part V bs' w S a := e ▸ h
theorem Part.frz (h : Part V bs w S a) (q : Nat) : Part V (fun nm => if nm.top = q then none else bs nm) w (S.frz q) a := by
 have hk : ∀ c v, CR V bs c v → CR V (fun nm : Nm => if nm.top = q then none else bs nm) (killC q c) v := fun c v hc => killC_ok (View.le.refl V) (fun nm hnm x hx => by simp only [if_neg hnm]; exact hx) hc
 have hv : ∀ nm : Nm, nm.top ≠ q → (fun nm : Nm => if nm.top = q then none else bs nm) nm = bs nm := fun nm hn => if_neg hn
 refine ⟨fun t => (h.tm t).map hk, fun r row hr => ?_, fun r hr => ?_⟩
 ·by_cases e : r = q
  ·subst e; simp [St.frz] at hr
  ·simp only [St.frz, upd_ne _ _ _ _ e] at hr
   obtain ⟨row0, g1, rfl⟩ := mapC_some hr
   exact (h.rows r row0 g1).imp (fun ⟨b, n, g2, g3⟩ => ⟨b, n, (hv (.v r) e).trans g2, g3.map (View.le.refl V) hk fun i j => hv (.h r i j) e⟩) (fun ⟨g2, k, g3⟩ => ⟨(hv (.v r) e).trans g2, k, by rw [g3]; rfl⟩)
 ·by_cases e : r = q
  ·exact ⟨if_pos e, fun i j => if_pos e⟩
  ·simp only [St.frz, upd_ne _ _ _ _ e] at hr
   have := h.dom r (St.mapC_none.1 hr)
   exact ⟨(hv (.v r) e).trans this.1, fun i j => (hv (.h r i j) e).trans (this.2 i j)⟩
theorem Part.gone : ∀ {qs : List (Option Nat)} {bs : Loc} {S : St}, Part V bs w S a → Part V (goneL bs qs) w (S.gone qs) a
 | [], bs, S, h => h.loc (by funext nm; simp [goneL])
 | none :: qs, bs, S, h => (Part.gone (qs := qs) h).loc (by funext nm; simp [goneL])
 | some q :: qs, bs, S, h => (Part.gone (qs := qs) (h.frz q)).loc (by
   funext nm
   simp only [goneL, List.mem_cons, Option.some.injEq]
   by_cases e : nm.top = q
   ·simp [e]
   ·simp [e])
theorem gone_mv : ∀ (qs : List (Option Nat)) (S : St), (S.gone qs).mv = S.mv
 | [], _ => rfl
 | none :: qs, S => gone_mv qs S
 | some q :: qs, S => (gone_mv qs (S.frz q)).trans rfl
theorem gone_some : ∀ (qs : List (Option Nat)) (S : St) (r : Nat) (row : Row), (S.gone qs).L r = some row → (∃ row0, S.L r = some row0) ∧ some r ∉ qs
 | [], _, r, row, h => ⟨⟨_, h⟩, by simp⟩
 |none :: qs, S, r, row, h => by
  obtain ⟨h1, h2⟩ := gone_some qs S r row h
  exact ⟨h1, by simpa using h2⟩
 |some q :: qs, S, r, row, h => by
  obtain ⟨⟨row0, h1⟩, h2⟩ := gone_some qs (S.frz q) r row h
  by_cases e : r = q
  ·subst e; simp [St.frz] at h1
  ·simp only [St.frz, upd_ne _ _ _ _ e] at h1
   obtain ⟨row1, g1, _⟩ := mapC_some h1
   exact ⟨⟨_, g1⟩, by simp [e, h2]⟩
theorem Sat1.filled (h : Sat1 w0 M N V bs S a w) {p k : Nat} {es' : List (List DV)} (hp : S.L p ≠ none ∨ (S.L p = none ∧ 1000 ≤ p)) (qs : List (Option Nat)) (g : Nat → Nat → Option Nat) (kp : Nat → Nat → Bool) (hg : ∀ i j q, g i j = some q → some q ∈ qs)
  (hginj : ∀ i j i' j' q, g i j = some q → g i' j' = some q → i = i' ∧ j = j') (hqs : ∀ q, some q ∈ qs → S.L q ≠ none ∧ (newN q ∨ rt q = rt p) ∧ q ≠ p)
  {w' : World} (hos : w'.os = w.os) (hot : w'.tape = w.tape) (hou : w'.output = w.output) (hsz : w.heap.size ≤ w'.heap.size) {b' n' : Nat}
  (hloc : (S.L p ≠ none ∧ bs (.v p) = some (b', n')) ∨ (S.L p = none ∧ b' = w.heap.size ∧ b' < w'.heap.size)) (hblk : ∀ k, k < w.heap.size → (∀ n, bs (.v p) ≠ some (k, n)) → w'.heap[k]? = w.heap[k]?)
  (h1 : es'.length * k ≤ n') (h2 : ∀ j, j < n' → (w'.cell? ⟨b', j, none⟩).isSome ∧ w'.frozen? ⟨b', j, none⟩ = false) (h3 : ∀ i (hi : i < es'.length), es'[i].length = k)
  (h4 : ∀ i j (hi : i < es'.length) (hj : j < es'[i].length), ∃ v, w'.cell? ⟨b', i * k + j, none⟩ = some v ∧ ((g i j = none ∧ kp i j = true ∧ CellR V bs w (.h p i j) v es'[i][j]) ∨ (g i j = none ∧ kp i j = false ∧ ∀ (nm : Nm) (bs' : Loc), bs' nm = none → CellR V bs' w nm v es'[i][j]) ∨ ∃ q, g i j = some q ∧ CellR V bs w (.v q) v es'[i][j])) :
  ∃ bs', bs' (.v p) = some (b', n') ∧ Sat1 w0 M N V bs' (((S.gone qs).killH p).new p (.own k es')) a w' := by
 have hpart := (h.part).gone (qs := qs)
 have hpn : some p ∉ qs := fun hm => (hqs p hm).2.2 rfl
 let src : Nm → Option Nm := fun nm => match nm with
  | .v r => if r = p then (if bs (.v p) = some (b', n') then some (.v p) else none) else (goneL bs qs (.v r)).map fun _ => .v r
  | .h r i j => if r = p then (match g i j with | some q => some (.v q) | none => if kp i j = true then some (.h p i j) else none) else (goneL bs qs (.h r i j)).map fun _ => .h r i j
 let bs' : Loc := fun nm => match nm with
  | .v r => if r = p then some (b', n') else goneL bs qs (.v r)
  | .h r i j => if r = p then (match g i j with | some q => bs (.v q) | none => if kp i j = true then bs (.h p i j) else none) else goneL bs qs (.h r i j)
 have hbv : bs' (.v p) = some (b', n') := by simp [bs']
 have hbo : ∀ nm : Nm, nm.top ≠ p → bs' nm = goneL bs qs nm := fun nm hnm => by cases nm <;> (simp only [Nm.top] at hnm; simp [bs', hnm])
 have hgl : ∀ nm x, goneL bs qs nm = some x → bs nm = some x ∧ some nm.top ∉ qs := fun nm x hx => by
  simp only [goneL] at hx
  split at hx
  ·simp at hx
  ·rename_i hn; exact ⟨hx, hn⟩
 have hglp : ∀ nm : Nm, some nm.top ∉ qs → goneL bs qs nm = bs nm := fun nm hn => by simp only [goneL, if_neg hn]
 refine ⟨bs', hbv, ?_⟩
 have hnb : ∀ nm b n, bs nm = some (b, n) → nm ≠ .v p → w'.heap[b]? = w.heap[b]? := fun nm b n hb hn => hblk b (h.fresh _ _ _ hb).2 fun m hm => hn (h.inj _ _ _ _ _ hb hm)
 have hvp : ∀ x, bs (.v p) = some x → bs' (.v p) = some x := fun x hx => by
  rcases hloc with ⟨_, hl⟩ | ⟨hl, _⟩
  ·rw [hbv, ← hl]; exact hx
  ·rw [(h.dom p hl).1] at hx; simp at hx
 have hkill : ∀ c v, CR V (goneL bs qs) c v → CR V bs' (killHC p c) v := fun c v hc => killHC_ok (View.le.refl V) (fun nm hnm x hx => by
  by_cases e : nm.top = p
  ·cases nm with
   | v r => simp only [Nm.top] at e; subst e; exact hvp x (hgl _ _ hx).1
   | h r i j => simp only [Nm.top] at e; subst e; exact absurd rfl (hnm i j)
  ·rw [hbo nm e]; exact hx) hc
 refine h.ren (fun x v hx => .inl hx) hos hot hou hsz (fun k hk => ?_) src (fun x y z e1 e2 => ?_) (.v p) (fun nm b n hb => ?_) (fun r row hr hlt hmv => ?_) (fun r hr => ?_) (fun r row hr => ?_) (fun t => (hpart.tm t).map hkill)
 ·by_cases e : ∃ n, bs (.v p) = some (k, n)
  ·obtain ⟨n, e⟩ := e; exact .inr ⟨_, _, e⟩
  ·exact .inl (hblk k hk fun n hn => e ⟨n, hn⟩)
 ·have key : ∀ x z, src x = some z → (x = z ∧ some x.top ∉ qs) ∨ (∃ i j q, x = .h p i j ∧ g i j = some q ∧ z = .v q ∧ some q ∈ qs) := fun x z e => by
   cases x with
   | v r =>
    simp only [src] at e
    split at e
    ·rename_i hr; subst hr
     split at e
     ·simp at e; subst e; exact .inl ⟨rfl, hpn⟩
     ·simp at e
    ·rename_i hr
     simp only [Option.map_eq_some_iff] at e
     obtain ⟨y, g1, rfl⟩ := e
     exact .inl ⟨rfl, (hgl _ _ g1).2⟩
   | h r i j =>
    simp only [src] at e
    split at e
    ·rename_i hr; subst hr
     cases hgi : g i j with
     | none =>
      rw [hgi] at e; simp only at e
      split at e
      ·simp at e; subst e; exact .inl ⟨rfl, hpn⟩
      ·simp at e
     | some q => rw [hgi] at e; simp at e; subst e; exact .inr ⟨i, j, q, rfl, hgi, rfl, hg _ _ _ hgi⟩
    ·rename_i hr
     simp only [Option.map_eq_some_iff] at e
     obtain ⟨y, g1, rfl⟩ := e
     exact .inl ⟨rfl, (hgl _ _ g1).2⟩
  rcases key x z e1 with ⟨a1, a2⟩ | ⟨i, j, q, a1, a2, a3, a4⟩ <;> rcases key y z e2 with ⟨c1, c2⟩ | ⟨i', j', q', c1, c2, c3, c4⟩
  ·rw [a1, c1]
  ·exfalso; rw [a1, c3] at a2; exact a2 c4
  ·exfalso; rw [c1, a3] at c2; exact c2 a4
  ·rw [a3] at c3; simp at c3; subst c3
   obtain ⟨rfl, rfl⟩ := hginj _ _ _ _ _ a2 c2
   rw [a1, c1]
 ·cases nm with
  | v r =>
   by_cases e : r = p
   ·subst e
    rw [hbv] at hb; simp at hb; obtain ⟨rfl, rfl⟩ := hb
    rcases hloc with ⟨_, hl⟩ | ⟨_, hl1, hl2⟩
    ·exact .inl ⟨.v r, n', by simp [src, hl], hl, .inl rfl⟩
    ·exact .inr ⟨rfl, hl1, hl2⟩
   ·rw [hbo (.v r) e] at hb
    exact .inl ⟨.v r, n, by simp [src, e, hb], (hgl _ _ hb).1, .inl rfl⟩
  | h r i j =>
   by_cases e : r = p
   ·subst e
    simp only [bs', if_true] at hb
    cases hgi : g i j with
    | none =>
     rw [hgi] at hb; simp only at hb
     split at hb
     ·rename_i hkp; exact .inl ⟨.h r i j, n, by simp [src, hgi, hkp], hb, .inl rfl⟩
     ·simp at hb
    | some q =>
     rw [hgi] at hb
     refine .inl ⟨.v q, n, by simp [src, hgi], hb, ?_⟩
     rcases (hqs q (hg _ _ _ hgi)).2.1 with h5 | h5
     ·exact .inr (newN_fresh (nm := .v q) h h5 hb)
     ·exact .inl h5
   ·rw [hbo (.h r i j) e] at hb
    exact .inl ⟨.h r i j, n, by simp [src, e, hb], (hgl _ _ hb).1, .inl rfl⟩
 ·have hmv' : r ∉ S.mv := fun hm => hmv (by show r ∈ (S.gone qs).mv; rw [gone_mv]; exact hm)
  by_cases e : r = p
  ·subst e
   rcases hloc with ⟨hl0, hl⟩ | ⟨hl0, _⟩
   ·obtain ⟨row0, hr0⟩ := Option.ne_none_iff_exists'.1 hl0
    rw [hbv, ← hl]; exact h.par r row0 hr0 hlt hmv'
   ·rcases hp with hp | ⟨_, hp⟩
    ·exact absurd hl0 hp
    ·have := h.ml.1; omega
  ·rw [hbo (.v r) e]
   have hr : ((S.gone qs).killH p).L r = some row := by have hr : (upd ((S.gone qs).killH p).L p (some (.own k es'))) r = some row := hr; rwa [upd_ne _ _ _ _ e] at hr
   obtain ⟨row0, g1, _⟩ := mapC_some hr
   obtain ⟨⟨row1, g2⟩, g3⟩ := gone_some qs S r row0 g1
   rw [hglp (.v r) g3]
   exact h.par r row1 g2 hlt hmv'
 ·have e : r ≠ p := by rintro rfl; simp [St.new] at hr
  have hr : ((S.gone qs).killH p).L r = none := by have hr : (upd ((S.gone qs).killH p).L p (some (.own k es'))) r = none := hr; rwa [upd_ne _ _ _ _ e] at hr
  have := hpart.dom r (St.mapC_none.1 hr)
  rw [hbo (.v r) e]
  exact ⟨this.1, fun i j => by rw [hbo (.h r i j) e]; exact this.2 i j⟩
 ·by_cases e : r = p
  ·subst e
   have hr : (upd ((S.gone qs).killH r).L r (some (.own k es'))) r = some row := hr
   simp at hr; subst hr
   refine .inl ⟨b', n', hbv, h1, h2, h3, fun i j hi hj => ?_⟩
   obtain ⟨v, g1, g2⟩ := h4 i j hi hj
   refine ⟨v, g1, ?_⟩
   rcases g2 with ⟨g2, g2', g3⟩ | ⟨g2, g2', g3⟩ | ⟨q, g2, g3⟩
   ·exact g3.mono (View.le.refl V) (by simp only [bs', if_true, g2, g2']) (fun b n hb => hnb _ _ _ hb (by simp))
   ·have hn0 : bs' (.h r i j) = none := by simp [bs', g2, g2']
    exact (g3 (.h r i j) (fun _ => none) rfl).mono (View.le.refl V) (by simp only [hn0]) (fun b n hb => by simp at hb)
   ·exact g3.mono (View.le.refl V) (by simp only [bs', if_true, g2]) (fun b n hb => hnb _ _ _ hb (by simpa using (hqs q (hg _ _ _ g2)).2.2))
  ·have hr : ((S.gone qs).killH p).L r = some row := by have hr : (upd ((S.gone qs).killH p).L p (some (.own k es'))) r = some row := hr; rwa [upd_ne _ _ _ _ e] at hr
   obtain ⟨row0, g1, rfl⟩ := mapC_some hr
   rw [hbo (.v r) e]
   refine (hpart.rows r row0 g1).imp (fun ⟨b, n, g4, g5⟩ => ⟨b, n, g4, ?_⟩) (fun ⟨g4, k, g5⟩ => ⟨g4, k, by rw [g5]; rfl⟩)
   exact (g5.mono (View.le.refl V) (fun _ _ h => h) (fun _ _ => rfl) (hnb _ _ _ (hgl _ _ g4).1 (by simpa using e)) (fun i j b n hb => hnb _ _ _ (hgl _ _ hb).1 (by simp))).map (View.le.refl V) hkill fun i j => hbo (.h r i j) e

theorem Lx_h {p i j k : Nat} {es : List (List DV)} (h : S.Lx (.h p i j) = some (k, es)) : ∃ k0 es0 e off len, S.L p = some (.own k0 es0) ∧ es0[i]? = some e ∧ e[j]? = some (.ow k off len es) := by
 simp only [St.Lx] at h
 split at h
 ·rename_i k0 es0 hL
  split at h
  ·rename_i e he
   split at h
   ·rename_i k1 off len es1 hd
    simp only [Option.some.injEq, Prod.mk.injEq] at h
    obtain ⟨rfl, rfl⟩ := h
    exact ⟨k0, es0, e, off, len, hL, he, hd⟩
   ·simp at h
  ·simp at h
 ·simp at h

theorem Sat1.taken (h : Sat1 w0 M N V bs S a w) {p i j k : Nat} {es : List (List DV)} (hL : S.Lx (.h p i j) = some (k, es)) {len : Nat} (hle : len ≤ es.length) {qn : Nat} (hqn : S.L qn = none) (hqn2 : 1000 ≤ qn) (hroot : rt qn = rt p)
  {news : List (List DV)} {w' : World} (hos : w'.os = w.os) (hot : w'.tape = w.tape) (hou : w'.output = w.output) (hsz : w.heap.size ≤ w'.heap.size) {b' n' : Nat}
  (hloc : bs (.h p i j) = some (b', n') ∨ (b' = w.heap.size ∧ b' < w'.heap.size)) (hblk : ∀ k, k < w.heap.size → (∀ n, bs (.h p i j) ≠ some (k, n)) → w'.heap[k]? = w.heap[k]?)
  (hrow : InSat V w' b' n' k (es.take len ++ news)) :
  ∃ bs', bs' (.v qn) = some (b', n') ∧ Sat1 w0 M N V bs' ((S.takeOut p i j).new qn (.own k (es.take len ++ news))) a w' := by
 obtain ⟨k0, es0, e0, off0, len0, hLp, he0, hd0⟩ := Lx_h hL
 obtain ⟨hi0, he0'⟩ := List.getElem?_eq_some_iff.1 he0
 have hqb := h.dom qn hqn
 let src : Nm → Option Nm := fun nm => if nm = .v qn then (if bs (.h p i j) = some (b', n') then some (.h p i j) else none) else if nm = .h p i j then none else some nm
 let bs' : Loc := fun nm => if nm = .v qn then some (b', n') else if nm = .h p i j then none else bs nm
 have hbv : bs' (.v qn) = some (b', n') := by simp [bs']
 have hbo : ∀ nm, nm ≠ .v qn → nm ≠ .h p i j → bs' nm = bs nm := fun nm h1 h2 => by simp only [bs', if_neg h1, if_neg h2]
 have hpq : p ≠ qn := by rintro rfl; rw [hqn] at hLp; simp at hLp
 have hto : S.takeOut p i j = (S.killH p).new p (.own k0 (es0.set i ((es0.getD i []).set j .no))) := by simp only [St.takeOut, hLp]
 refine ⟨bs', hbv, ?_⟩
 rw [hto]
 have hnb : ∀ nm b n, bs nm = some (b, n) → nm ≠ .h p i j → w'.heap[b]? = w.heap[b]? := fun nm b n hb hn => hblk b (h.fresh _ _ _ hb).2 fun m hm => hn (h.inj _ _ _ _ _ hb hm)
 have hkill : ∀ c v, CR V bs c v → CR V bs' (killHC p c) v := fun c v hc => killHC_ok (View.le.refl V) (fun nm hnm x hx => by rw [hbo nm (by rintro rfl; rw [hqb.1] at hx; simp at hx) (hnm i j)]; exact hx) hc
 have hSL : ∀ r, r ≠ qn → r ≠ p → (((S.killH p).new p (.own k0 (es0.set i ((es0.getD i []).set j .no)))).new qn (.own k (es.take len ++ news))).L r = (S.killH p).L r := fun r e1 e2 => by
  simp only [St.new]; rw [upd_ne _ _ _ _ e1, upd_ne _ _ _ _ e2]
 have hSp : (((S.killH p).new p (.own k0 (es0.set i ((es0.getD i []).set j .no)))).new qn (.own k (es.take len ++ news))).L p = some (.own k0 (es0.set i ((es0.getD i []).set j .no))) := by
  simp only [St.new]; rw [upd_ne _ _ _ _ hpq, upd_same]
 have hSq : (((S.killH p).new p (.own k0 (es0.set i ((es0.getD i []).set j .no)))).new qn (.own k (es.take len ++ news))).L qn = some (.own k (es.take len ++ news)) := by
  simp only [St.new]; rw [upd_same]
 refine h.ren (fun x v hx => .inl hx) hos hot hou hsz (fun k hk => ?_) src (fun x y z e1 e2 => ?_) (.v qn) (fun nm b n hb => ?_) (fun r row hr hlt hmv => ?_) (fun r hr => ?_) (fun r row hr => ?_) (fun t => (h.tmps t).map hkill)
 ·by_cases e : ∃ n, bs (.h p i j) = some (k, n)
  ·obtain ⟨n, e⟩ := e; exact .inr ⟨_, _, e⟩
  ·exact .inl (hblk k hk fun n hn => e ⟨n, hn⟩)
 ·have key : ∀ x z, src x = some z → (x = .v qn ∧ z = .h p i j) ∨ (x = z ∧ x ≠ .v qn ∧ x ≠ .h p i j) := fun x z e => by
   simp only [src] at e
   split at e
   ·rename_i hx
    split at e
    ·simp at e; exact .inl ⟨hx, e.symm⟩
    ·simp at e
   ·rename_i hx
    split at e
    ·simp at e
    ·rename_i hx2; simp at e; exact .inr ⟨e, hx, hx2⟩
  rcases key x z e1 with ⟨a1, a2⟩ | ⟨a1, a2, a3⟩ <;> rcases key y z e2 with ⟨c1, c2⟩ | ⟨c1, c2, c3⟩
  ·rw [a1, c1]
  ·exfalso; rw [c1] at c3; exact c3 a2
  ·exfalso; rw [a1] at a3; exact a3 c2
  ·rw [a1, c1]
 ·by_cases e1 : nm = .v qn
  ·subst e1
   rw [hbv] at hb; simp at hb; obtain ⟨rfl, rfl⟩ := hb
   rcases hloc with hl | ⟨hl1, hl2⟩
   ·exact .inl ⟨.h p i j, n', by simp [src, hl], hl, .inl (by simp only [Nm.root, Nm.top]; exact hroot.symm)⟩
   ·exact .inr ⟨rfl, hl1, hl2⟩
  ·by_cases e2 : nm = .h p i j
   ·subst e2; simp [bs'] at hb
   ·rw [hbo nm e1 e2] at hb
    exact .inl ⟨nm, n, by simp [src, e1, e2], hb, .inl rfl⟩
 ·have e1 : r ≠ qn := by have := h.ml.1; omega
  rw [hbo (.v r) (by simpa using e1) (by simp)]
  by_cases e2 : r = p
  ·subst e2; exact h.par r _ hLp hlt hmv
  ·rw [hSL r e1 e2] at hr
   obtain ⟨row0, g1, _⟩ := mapC_some hr
   exact h.par r row0 g1 hlt hmv
 ·have e1 : r ≠ qn := by rintro rfl; rw [hSq] at hr; simp at hr
  have e2 : r ≠ p := by rintro rfl; rw [hSp] at hr; simp at hr
  rw [hSL r e1 e2] at hr
  have := h.dom r (St.mapC_none.1 hr)
  refine ⟨by rw [hbo (.v r) (by simpa using e1) (by simp)]; exact this.1, fun a b => ?_⟩
  by_cases e3 : (Nm.h r a b) = .h p i j
  ·rw [e3]; simp [bs']
  ·rw [hbo _ (by simp) e3]; exact this.2 a b
 ·by_cases e1 : r = qn
  ·subst e1
   rw [hSq] at hr; simp at hr; subst hr
   obtain ⟨g1, g2, g3, g4⟩ := hrow
   exact .inl ⟨b', n', hbv, g1, g2, g3, fun a b ha hb => by obtain ⟨v, g5, g6⟩ := g4 a b ha hb; exact ⟨v, g5, .rd g6⟩⟩
  ·rw [hbo (.v r) (by simpa using e1) (by simp)]
   by_cases e2 : r = p
   ·subst e2
    rw [hSp] at hr; simp at hr; subst hr
    rcases h.rows r _ hLp with ⟨b, n, hb, g1, g2, g3, g4⟩ | ⟨_, k1, hk⟩
    ·refine .inl ⟨b, n, hb, ?_⟩
     have hbb : w'.heap[b]? = w.heap[b]? := hnb _ _ _ hb (by simp)
     have hc1 : ∀ m, w'.cell? ⟨b, m, none⟩ = w.cell? ⟨b, m, none⟩ := fun m => World.cell_of_block (x := ⟨b, m, none⟩) hbb
     have hc2 : ∀ m, w'.frozen? ⟨b, m, none⟩ = w.frozen? ⟨b, m, none⟩ := fun m => World.frozen_of_block (x := ⟨b, m, none⟩) hbb
     simp only [he0, Option.getD_some]
     refine ⟨by simpa using g1, fun m hm => by rw [hc1, hc2]; exact g2 m hm, fun a ha => ?_, fun a c ha hc => ?_⟩
     ·rw [List.getElem_set]; split
      ·rename_i e; subst e; simp; rw [← he0']; exact g3 _ _
      ·exact g3 _ _
     ·simp only [List.length_set] at ha
      by_cases e : a = i
      ·subst e
       have hs1 : (es0.set a (e0.set j .no))[a]'(by simpa using ha) = e0.set j .no := by simp
       have ha' : a < es0.length := hi0
       have hc' : c < es0[a].length := by rw [hs1] at hc; rw [he0']; simpa using hc
       obtain ⟨v, g5, g6⟩ := g4 a c ha' hc'
       refine ⟨v, by rw [hc1]; exact g5, ?_⟩
       simp only [hs1, List.getElem_set]
       by_cases e3 : j = c
       ·subst e3
        simp only [if_true]
        refine .no v ?_
        have hd1 : es0[a][j]? = some (.ow k off0 len0 es) := by rw [he0']; exact hd0
        have hd2 := (List.getElem?_eq_some_iff.1 hd1).2
        rw [hd2] at g6
        cases g6 <;> first | rfl | (rename_i h7; cases h7)
       ·simp only [if_neg e3]
        have hd2 : e0[c]'(by rw [← he0']; exact hc') = es0[a][c] := by simp [he0']
        rw [hd2]
        exact g6.mono (View.le.refl V) (hbo _ (by simp) (by simp; exact fun e => e3 e.symm)) (fun b n hb => hnb _ _ _ hb (by simp; exact fun e => e3 e.symm))
      ·have hs1 : (es0.set i (e0.set j .no))[a]'(by simpa using ha) = es0[a] := by rw [List.getElem_set, if_neg (Ne.symm e)]
       have hc' : c < es0[a].length := by rw [hs1] at hc; exact hc
       obtain ⟨v, g5, g6⟩ := g4 a c ha hc'
       refine ⟨v, by rw [hc1]; exact g5, ?_⟩
       simp only [hs1]
       exact g6.mono (View.le.refl V) (hbo _ (by simp) (by simp [e])) (fun b n hb => hnb _ _ _ hb (by simp [e]))
    ·simp at hk; obtain ⟨_, rfl⟩ := hk; simp at he0
   ·rw [hSL r e1 e2] at hr
    obtain ⟨row0, g1, rfl⟩ := mapC_some hr
    refine (h.rows r row0 g1).imp (fun ⟨b, n, g4, g5⟩ => ⟨b, n, g4, ?_⟩) (fun ⟨g4, k, g5⟩ => ⟨g4, k, by rw [g5]; rfl⟩)
    exact (g5.mono (View.le.refl V) (fun _ _ h => h) (fun _ _ => rfl) (hnb _ _ _ g4 (by simp)) (fun a c b n hb => hnb _ _ _ hb (by simp [e2]))).map (View.le.refl V) hkill fun a c => hbo _ (by simp) (by simp [e2])
end
end Go.Proofs.Ytpdjehnlejjfmaa.D
/- append answers as the model does. -/
namespace Go.Proofs.Ytpdjehnlejjfmaa.D
open Go.RowKit
set_option maxHeartbeats 1000000

section
variable {P : Program} (tb : Tab P) {w0 : World} {M : Rows0} {N : Nat} {V V0 : View} {bs : Loc} {S : St} {a : Act} {w : World}

theorem CellR.one {nm : Nm} {v : Value} {d : DV} (h : CellR V bs w nm v d) : v.oneCell' = true := by
 cases h with
 | rd h => exact h.one
 | no _ h => exact h
 | ow => rfl
 | ownil => rfl
theorem cells_list {b o m : Nat} (h : ∀ j, j < m → (w.cell? ⟨b, o + j, none⟩).isSome) : ∃ us : List Value, us.length = m ∧ ∀ j, j < m → us[j]? = w.cell? ⟨b, o + j, none⟩ := by
 refine ⟨(List.range m).map fun j => (w.cell? ⟨b, o + j, none⟩).getD undef, by simp, fun j hj => ?_⟩
 obtain ⟨v, hv⟩ := Option.isSome_iff_exists.1 (h j hj)
 simp [hj, hv]
theorem idx_lt {n k i j : Nat} (hi : i < n) (hj : j < k) : i * k + j < n * k := by
 have : (i + 1) * k ≤ n * k := Nat.mul_le_mul_right k hi
 rw [Nat.add_mul] at this; omega
theorem idx_split {n k m : Nat} (h : m < n * k) : m / k < n ∧ m % k < k ∧ m / k * k + m % k = m := by
 have hk0 : 0 < k := by rcases Nat.eq_zero_or_pos k with h0 | h0; rw [h0] at h; simp at h; exact h0
 exact ⟨Nat.div_lt_of_lt_mul (by rw [Nat.mul_comm]; exact h), Nat.mod_lt _ hk0, by rw [Nat.mul_comm]; exact Nat.div_add_mod m k⟩

structure SrcOf (P : Program) (w : World) (size : Nat) (x : Value) (n : Nat) (us : List Value) : Prop where
 len : us.length = n * size
 one : ∀ u ∈ us, u.oneCell' = true
 run : ∀ w' : World, (∀ y, w'.cell? y = w.cell? y) → (Builtin.lenOf x).run P w' = .ok n w' ∧ (∀ m, m ≤ n → (Builtin.firstCells size m x).run P w' = .ok (us.take (m * size)).toArray w')

theorem srcD_src (hs : Sat1 w0 M N V bs S a w) {size : Nat} {sv : SV} {v : Value} (hv : VR V bs sv v) {K : List (List DV) → Prop} (h : srcD S size sv K) :
  ∃ es us, K es ∧ FlatR V size es us ∧ SrcOf P w size v es.length us := by
 obtain ⟨es, us, h1, h2, h3, _⟩ := srcD_ok (P := P) hs hv h
 exact ⟨es, us, h1, h2, h2.1, flat_cells h2, h3⟩

theorem eatD_src (hs : Sat1 w0 M N V bs S a w) {p size : Nat} {sv : SV} {v : Value} (hv : VR V bs sv v) {K : Nat → Nat → List (List DV) → Prop} (h : eatD S p size sv K) :
  ∃ q off news, K q off news ∧ q ≠ p ∧ newN q ∧ (0 < news.length → ∃ us, SrcOf P w size v news.length us ∧ (∀ e ∈ news, e.length = size) ∧
   ∀ i j (hi : i < news.length) (hj : j < news[i].length), ∃ u, us[i * size + j]? = some u ∧ CellR V bs w (.h q (off + i) j) u news[i][j]) := by
 unfold eatD at h
 split at h
 ·rename_i q k off len
  split at h
  ·rename_i k' es hL
   obtain ⟨⟨rfl, rfl, hle, hqp, hq⟩, h⟩ := h
   refine ⟨q, off, _, h, hqp, hq, fun hpos => ?_⟩
   have hlen : ((es.drop off).take len).length = len := by simp; omega
   rw [hlen] at hpos
   have hcr := vr_one hv
   cases hcr with
   | oszero => omega
   | @os _ _ _ _ b n cap hb hlc hcap =>
    rcases hs.rows q _ hL with ⟨b', n', hb', g1, g2, g3, g4⟩ | ⟨hb', _⟩
    ·rw [hb] at hb'; simp at hb'; obtain ⟨rfl, rfl⟩ := hb'
     have hroom : (off + len) * k ≤ n := Nat.le_trans (Nat.mul_le_mul_right _ hle) g1
     rw [Nat.add_mul] at hroom
     obtain ⟨us, hul, hu⟩ := cells_list (w := w) (b := b) (o := off * k) (m := len * k) (fun j hj => (g2 _ (by omega)).1)
     have hget : ∀ i (hi : i < ((es.drop off).take len).length), ((es.drop off).take len)[i] = es[off + i]'(by omega) := fun i hi => by simp
     have hcell : ∀ i j (hi : i < ((es.drop off).take len).length) (hj : j < ((es.drop off).take len)[i].length), ∃ u, us[i * k + j]? = some u ∧ CellR V bs w (.h q (off + i) j) u ((es.drop off).take len)[i][j] := fun i j hi hj => by
      have hi' : off + i < es.length := by omega
      have hj' : j < es[off + i].length := by rw [← hget i hi]; exact hj
      obtain ⟨v, g5, g6⟩ := g4 (off + i) j hi' hj'
      have hjk : j < k := by rw [g3 _ hi'] at hj'; exact hj'
      refine ⟨v, ?_, ?_⟩
      ·rw [hu _ (idx_lt (by omega) hjk), show off * k + (i * k + j) = (off + i) * k + j by rw [Nat.add_mul]; omega]; exact g5
      ·have h7 : ((es.drop off).take len)[i][j] = es[off + i][j] := by simp
       rw [h7]; exact g6
     have hk : ∀ e ∈ (es.drop off).take len, e.length = k := fun e he => by
      obtain ⟨i, hi, rfl⟩ := List.mem_iff_getElem.1 he
      rw [hget i hi]; exact g3 _ _
     refine ⟨us, hlen.symm ▸ ⟨hul, fun u hu2 => ?_, fun w' hw' => ⟨by simp [Builtin.lenOf], fun m hm => ?_⟩⟩, hk, hcell⟩
     ·obtain ⟨m, hm, rfl⟩ := List.mem_iff_getElem.1 hu2
      rw [hul] at hm
      obtain ⟨e1, e2, e3⟩ := idx_split hm
      obtain ⟨u, e4, e5⟩ := hcell (m / k) (m % k) (by omega) (by rw [hk _ (List.getElem_mem _)]; exact e2)
      rw [e3, List.getElem?_eq_getElem (by omega)] at e4
      injection e4 with e4; rw [e4]; exact e5.one
     ·have hl : (us.take (m * k)).length = m * k := by
       rw [List.length_take, hul]; exact Nat.min_eq_left (Nat.mul_le_mul_right _ hm)
      have := run_loadCells_list (P := P) w' ⟨b, off * k, none⟩ (us.take (m * k)) (fun j u hj => by
       rw [add_eq, hw']
       rw [List.getElem?_take] at hj; split at hj
       ·rename_i hjm
        have : m * k ≤ len * k := Nat.mul_le_mul_right _ hm
        rw [hu j (by omega)] at hj; exact hj
       ·simp at hj)
      rw [hl] at this
      simpa [Builtin.firstCells] using this
    ·rw [hb] at hb'; simp at hb'
  ·exact h.elim
 ·exact h.elim

theorem appB_ok (hs : Sat1 w0 M N V bs S a w) {p k : Nat} {es : List (List DV)} (hL : S.L p = some (.own k es)) {len : Nat} (hle : len ≤ es.length) {sv x : Value} (hcr : CR V bs (.os (.v p) k 0 len) sv) (qo : Option (Nat × Nat)) (hq : ∀ q off, qo = some (q, off) → q ≠ p ∧ newN q)
  {t t' ty e : TypeId} {i i' : TyI} (ht : P.underlying t = some (.slice e)) (hi : TyFacts P e i) (hz : i.zero ≠ []) (hi' : TyFacts P t' i') (hk : (∃ e, i'.kind = .slice e) ∨ i'.kind = .string) (hik : k = i.size)
  {news : List (List DV)} {us : List Value} (hsrc : SrcOf P w k x news.length us) (hnk : ∀ e ∈ news, e.length = k)
  (hus : ∀ i j (hi : i < news.length) (hj : j < news[i].length), ∃ u, us[i * k + j]? = some u ∧ (qo = none → Rd V u news[i][j]) ∧ ∀ q off, qo = some (q, off) → CellR V bs w (.h q (off + i) j) u news[i][j])
  (hb1 : (2 * (len + news.length) + 1024) * i.bytes ≤ 2 ^ 48) (hb2 : len + news.length ≤ 2 ^ 48) (hpos : qo = none ∨ 0 < news.length) :
  ∃ v w' bs', (Builtin.append_ #[t, t'] ty #[sv, x]).run P w = .ok v w' ∧ Sat1 w0 M N V bs' ((((eatS S qo).kill p).new p (.own k (es.take len ++ news))).mov p) a w' ∧ CR V bs' (.os (.v p) k 0 (len + news.length)) v := by
 subst hik
 obtain ⟨hul, hone, hl⟩ := hsrc
 obtain ⟨hl0, hc0⟩ := hl w fun _ => rfl
 obtain ⟨_, hc1⟩ := hl w.drew fun _ => rfl
 have hfull : us.take (news.length * i.size) = us := by rw [← hul]; exact List.take_length
 have hsd : Sat1 w0 M N V bs S a w.drew := hs.drew _
 have hkk : ∀ i2 (h2 : i2 < es.length), es[i2].length = i.size := fun i2 h2 => by
  rcases hs.rows p _ hL with ⟨b, n, _, _, _, g, _⟩ | ⟨_, k0, g⟩
  ·exact g i2 h2
  ·simp at g; obtain ⟨_, rfl⟩ := g; simp at h2
 -- into a new block
 have grow : ∀ (old : List Value) (rest : List Value) (c : Nat), old.length = len * i.size → (∀ i2 j (h2 : i2 < es.length) (hj : j < es[i2].length), i2 < len → ∃ v, old[i2 * i.size + j]? = some v ∧ CellR V bs w (.h p i2 j) v es[i2][j]) →
   len + news.length ≤ c → rest.length = (c - (len + news.length)) * i.size → ∀ v, v = .slice (some ⟨w.heap.size, 0, none⟩) (len + news.length) c → ∃ bs', Sat1 w0 M N V bs' ((((eatS S qo).kill p).new p (.own i.size (es.take len ++ news))).mov p) a (w.drew.alloc (.cells ((old ++ us) ++ rest).toArray e)) ∧ CR V bs' (.os (.v p) i.size 0 (len + news.length)) v := fun old rest c hol hold hc hrl v hv => by
  have hlall : ((old ++ us) ++ rest).length = c * i.size := by
   rw [List.length_append, List.length_append, hol, hul, hrl, ← Nat.add_mul, ← Nat.add_mul]; congr 1; omega
  have hcellN : ∀ j, (w.drew.alloc (.cells ((old ++ us) ++ rest).toArray e)).cell? ⟨w.heap.size, j, none⟩ = ((old ++ us) ++ rest)[j]? := fun j => by
   have := World.cell?_alloc_new w.drew ((old ++ us) ++ rest).toArray e j
   simpa using this
  have hsdn : ∀ nm v d, CellR V bs w nm v d → CellR V bs w.drew nm v d := fun nm v d h => CellR.mono (w := w) (w' := w.drew) (View.le.refl V) rfl (fun _ _ _ => rfl) h
  obtain ⟨bs', g1, g2⟩ := hsd.appended hL hle qo hq (news := news) (w' := w.drew.alloc (.cells ((old ++ us) ++ rest).toArray e)) (b' := w.heap.size) (n' := ((old ++ us) ++ rest).length) rfl rfl rfl (by simp) (.inr ⟨rfl, by simp⟩) (fun k hk _ => Below.heap_alloc w.drew _ k hk)
   (by rw [hlall]; exact Nat.mul_le_mul_right _ hc) (fun j hj => ⟨by rw [hcellN, List.getElem?_eq_getElem hj]; rfl, World.frozen?_alloc_new _ _ _ _⟩) hnk
   (fun i2 j h2 hj hlt => by
    obtain ⟨v, e1, e2⟩ := hold i2 j h2 hj hlt
    refine ⟨v, ?_, hsdn _ _ _ e2⟩
    have hjk : j < i.size := by rw [hkk _ h2] at hj; exact hj
    rw [hcellN, List.getElem?_append_left (by rw [List.length_append, hol]; have := idx_lt hlt hjk; omega), List.getElem?_append_left (by rw [hol]; exact idx_lt hlt hjk)]; exact e1)
   (fun i2 j h2 hj => by
    obtain ⟨u, e1, e2, e3⟩ := hus i2 j h2 hj
    refine ⟨u, ?_, e2, fun q off h => hsdn _ _ _ (e3 q off h)⟩
    have hjk : j < i.size := by rw [hnk _ (List.getElem_mem _)] at hj; exact hj
    have := idx_lt h2 hjk
    rw [hcellN, Nat.add_mul, Nat.add_assoc, List.getElem?_append_left (by rw [List.length_append, hol, hul]; omega), List.getElem?_append_right (by omega), hol, Nat.add_sub_cancel_left]; exact e1)
  refine ⟨bs', g2, ?_⟩
  subst hv
  have := CR.os (V := V) (bs := bs') (p := .v p) (k := i.size) (off := 0) (len := len + news.length) (cap := c) g1 hc (by rw [hlall]; simp)
  simpa using this
 cases hcr with
 | @os _ _ _ _ b n cap hb hlc hcap =>
  simp only [Nat.zero_mul, Nat.zero_add] at hcap ⊢
  obtain ⟨hr1, hr2, hr3, hr4⟩ : RowSat V bs w p b n (.own i.size es) := by
   rcases hs.rows p _ hL with ⟨b', n', hb', hr⟩ | ⟨hb', _⟩
   ·rw [hb] at hb'; simp at hb'; obtain ⟨rfl, rfl⟩ := hb'; exact hr
   ·rw [hb] at hb'; simp at hb'
  have hle1 : len * i.size ≤ n := Nat.le_trans (Nat.mul_le_mul_right _ hlc) hcap
  obtain ⟨old, hol, holdc⟩ := cells_list (w := w) (b := b) (o := 0) (m := len * i.size) (fun j hj => (hr2 _ (by omega)).1)
  simp only [Nat.zero_add] at holdc
  have holdr : ∀ i2 j (h2 : i2 < es.length) (hj : j < es[i2].length), i2 < len → ∃ v, old[i2 * i.size + j]? = some v ∧ CellR V bs w (.h p i2 j) v es[i2][j] := fun i2 j h2 hj hlt => by
   obtain ⟨v, e1, e2⟩ := hr4 i2 j h2 hj
   have hjk : j < i.size := by rw [hkk _ h2] at hj; exact hj
   exact ⟨v, by rw [holdc _ (idx_lt hlt hjk)]; exact e1, e2⟩
  by_cases hfit : len + news.length ≤ cap
  ·have hroom : (len + news.length) * i.size ≤ n := Nat.le_trans (Nat.mul_le_mul_right _ hfit) hcap
   have hul2 : len * i.size + us.length ≤ n := by rw [hul, ← Nat.add_mul]; exact hroom
   obtain ⟨w', g1, g2, g3, g4⟩ := run_storeCells (P := P) us w b 0 (len * i.size) (fun j hj => by simpa using hr2 (len * i.size + j) (by omega)) hone
   simp only [Nat.zero_add] at g3 g4
   have hsome : ∀ j, j < n → (w'.cell? ⟨b, j, none⟩).isSome := fun j hj => by
    by_cases hin : len * i.size ≤ j ∧ j < len * i.size + us.length
    ·obtain ⟨q, rfl⟩ : ∃ q, j = len * i.size + q := ⟨j - len * i.size, by omega⟩
     rw [g3 q us[q] (List.getElem?_eq_getElem (by omega))]; rfl
    ·rw [g4 j (by omega)]; exact (hr2 j hj).1
   have hrun := run_append_fits (ty := ty) ht hi hi' hk (b := b) (o := 0) hfit hl0 (hc0 _ (Nat.le_refl _)) (by rw [hfull]; exact g1)
   obtain ⟨bs', k1, k2⟩ := hs.appended hL hle qo hq (news := news) (w' := w') (b' := b) (n' := n) g2.os g2.tape g2.output (by rw [g2.size]; exact Nat.le_refl _) (.inl hb) (fun k hk hn => g2.other k (by rintro rfl; exact hn _ hb))
    hroom (fun j hj => ⟨hsome j hj, by rw [g2.frozen]; exact (hr2 j hj).2⟩) hnk
    (fun i2 j h2 hj hlt => by
     obtain ⟨v, e1, e2⟩ := hr4 i2 j h2 hj
     have hjk : j < i.size := by rw [hkk _ h2] at hj; exact hj
     exact ⟨v, by rw [g4 _ (.inl (idx_lt hlt hjk))]; exact e1, e2⟩)
    (fun i2 j h2 hj => by
     obtain ⟨u, e1, e2⟩ := hus i2 j h2 hj
     exact ⟨u, by rw [Nat.add_mul, Nat.add_assoc]; exact g3 _ _ e1, e2⟩)
   refine ⟨_, w', bs', hrun, k2, ?_⟩
   ·have := CR.os (V := V) (bs := bs') (p := .v p) (k := i.size) (off := 0) (len := len + news.length) (cap := cap) k1 hfit (by simpa using hcap)
    simpa using this
  ·have hold : (Builtin.firstCells i.size len (.slice (some ⟨b, 0, none⟩) len cap)).run P w.drew = .ok old.toArray w.drew := by
    have := run_loadCells_list (P := P) w.drew ⟨b, 0, none⟩ old (fun j u hj => by
     rw [add_eq]
     have hjl := (List.getElem?_eq_some_iff.1 hj).1
     rw [holdc j (by omega)] at hj
     simpa using hj)
    rw [hol] at this
    simpa [Builtin.firstCells] using this
   obtain ⟨c, rest, h4, h5, hrun⟩ := run_append_grow (ty := ty) ht hi hz hi' hk (by omega) hb1 hb2 hl0 hold (hc1 _ (Nat.le_refl _))
   rw [hfull] at hrun
   have hobj : (old.toArray ++ us.toArray ++ rest.toArray) = ((old ++ us) ++ rest).toArray := by apply Array.ext'; simp
   rw [hobj] at hrun
   obtain ⟨bs', k1, k2⟩ := grow old rest c hol holdr h4 h5 (.slice (some ⟨w.heap.size, 0, none⟩) (len + news.length) c) rfl
   exact ⟨_, _, bs', hrun, k1, k2⟩
 | oszero =>
  rename_i ad
  by_cases hne : news = []
  ·subst hne
   have hqn : qo = none := by rcases hpos with h | h; exact h; simp at h
   subst hqn
   have hrun := run_append_nothing (ty := ty) ht hi hi' hk (ad := ad) (cap := 0) (by simpa using hl0) (by simpa using hc0 0 (by simp))
   have hfin := (hs.shrink hL 0).killed p
   rw [kill_new] at hfin
   have he : es.take 0 ++ [] = es.take 0 := by simp
   rw [he]
   exact ⟨_, _, bs, hrun, hfin.mov p, .oszero⟩
  ·have hpos : 0 < news.length := by cases news with | nil => exact absurd rfl hne | cons _ _ => simp
   obtain ⟨c, rest, h4, h5, hrun⟩ := run_append_grow (ty := ty) ht hi hz hi' hk (base := ad) (len := 0) (cap := 0) (old := #[]) (by omega) hb1 hb2 hl0 (by cases ad <;> simp [Builtin.firstCells, loadCells, loadCellsFrom]) (hc1 _ (Nat.le_refl _))
   rw [hfull] at hrun
   have hobj : (#[] ++ us.toArray ++ rest.toArray) = (([] ++ us) ++ rest).toArray := by apply Array.ext'; simp
   rw [hobj] at hrun
   obtain ⟨bs', k1, k2⟩ := grow [] rest c (by simp) (fun i2 j h2 hj hlt => by omega) h4 h5 (.slice (some ⟨w.heap.size, 0, none⟩) (0 + news.length) c) rfl
   exact ⟨_, _, bs', hrun, k1, k2⟩

theorem appC_ok (hs : Sat1 w0 M N V bs S a w) {p i1 j1 k : Nat} {es : List (List DV)} (hL : S.Lx (.h p i1 j1) = some (k, es)) {len : Nat} (hle : len ≤ es.length) {sv x : Value} (hcr : CR V bs (.os (.h p i1 j1) k 0 len) sv)
  {qn : Nat} (hqn : S.L qn = none) (hqn2 : 1000 ≤ qn) (hroot : rt qn = rt p)
  {t t' ty e : TypeId} {i i' : TyI} (ht : P.underlying t = some (.slice e)) (hi : TyFacts P e i) (hz : i.zero ≠ []) (hi' : TyFacts P t' i') (hk : (∃ e, i'.kind = .slice e) ∨ i'.kind = .string) (hik : k = i.size)
  {news : List (List DV)} {us : List Value} (hsrc : SrcOf P w k x news.length us) (hflat : FlatR V k news us)
  (hb1 : (2 * (len + news.length) + 1024) * i.bytes ≤ 2 ^ 48) (hb2 : len + news.length ≤ 2 ^ 48) (hpos : 0 < news.length) :
  ∃ v w' bs', (Builtin.append_ #[t, t'] ty #[sv, x]).run P w = .ok v w' ∧ Sat1 w0 M N V bs' ((S.takeOut p i1 j1).new qn (.own k (es.take len ++ news))) a w' ∧ CR V bs' (.os (.v qn) k 0 (len + news.length)) v := by
 subst hik
 obtain ⟨hul, hone, hl⟩ := hsrc
 obtain ⟨hl0, hc0⟩ := hl w fun _ => rfl
 obtain ⟨_, hc1⟩ := hl w.drew fun _ => rfl
 have hfull : us.take (news.length * i.size) = us := by rw [← hul]; exact List.take_length
 have hsd : Sat1 w0 M N V bs S a w.drew := hs.drew _
 obtain ⟨_, hnk, hus⟩ := hflat
 have hlt : (es.take len).length = len := by simp; omega
 -- what lies there, where anything does
 have hin : (len = 0 ∧ bs (.h p i1 j1) = none) ∨ ∃ b n, bs (.h p i1 j1) = some (b, n) ∧ InSat V w b n i.size es := by
  obtain ⟨k0, es0, e0, off0, len0, hLp, he0, hd0⟩ := Lx_h hL
  obtain ⟨hi0, he0'⟩ := List.getElem?_eq_some_iff.1 he0
  subst he0'
  obtain ⟨hj0, hd0'⟩ := List.getElem?_eq_some_iff.1 hd0
  rcases hs.rows p _ hLp with ⟨b, n, hb, g1, g2, g3, g4⟩ | ⟨_, k1, hk⟩
  ·obtain ⟨v, g5, g6⟩ := g4 i1 j1 hi0 hj0
   rw [hd0'] at g6
   cases g6 with
   | rd h => cases h
   | ow hb ho hl hc h => exact .inr ⟨_, _, hb, h⟩
   | ownil _ _ h => left; exact ⟨by simpa using hle, h⟩
  ·simp at hk; obtain ⟨_, rfl⟩ := hk; simp at hi0
 have allk : ∀ i2 (h2 : i2 < (es.take len ++ news).length), (es.take len ++ news)[i2].length = i.size := fun i2 h2 => by
  rw [List.getElem_append]; split
  ·rename_i h3
   rw [List.getElem_take]
   rcases hin with ⟨h0, _⟩ | ⟨b, n, _, h⟩
   ·simp at h3; omega
   ·exact h.2.2.1 _ _
  ·exact hnk _ (List.getElem_mem _)
 have grow : ∀ (old : List Value) (rest : List Value) (c : Nat), old.length = len * i.size → (∀ i2 j (h2 : i2 < es.length) (hj : j < es[i2].length), i2 < len → ∃ v, old[i2 * i.size + j]? = some v ∧ Rd V v es[i2][j]) →
   len + news.length ≤ c → rest.length = (c - (len + news.length)) * i.size → ∀ v, v = .slice (some ⟨w.heap.size, 0, none⟩) (len + news.length) c → ∃ bs', Sat1 w0 M N V bs' ((S.takeOut p i1 j1).new qn (.own i.size (es.take len ++ news))) a (w.drew.alloc (.cells ((old ++ us) ++ rest).toArray e)) ∧ CR V bs' (.os (.v qn) i.size 0 (len + news.length)) v := fun old rest c hol hold hc hrl v hv => by
  have hlall : ((old ++ us) ++ rest).length = c * i.size := by
   rw [List.length_append, List.length_append, hol, hul, hrl, ← Nat.add_mul, ← Nat.add_mul]; congr 1; omega
  have hcellN : ∀ j, (w.drew.alloc (.cells ((old ++ us) ++ rest).toArray e)).cell? ⟨w.heap.size, j, none⟩ = ((old ++ us) ++ rest)[j]? := fun j => by
   have := World.cell?_alloc_new w.drew ((old ++ us) ++ rest).toArray e j
   simpa using this
  obtain ⟨bs', g1, g2⟩ := hsd.taken hL hle hqn hqn2 hroot (news := news) (w' := w.drew.alloc (.cells ((old ++ us) ++ rest).toArray e)) (b' := w.heap.size) (n' := ((old ++ us) ++ rest).length) rfl rfl rfl (by simp) (.inr ⟨rfl, by simp⟩) (fun k hk _ => Below.heap_alloc w.drew _ k hk)
   ⟨by rw [hlall, List.length_append, hlt]; exact Nat.mul_le_mul_right _ hc, fun j hj => ⟨by rw [hcellN, List.getElem?_eq_getElem hj]; rfl, World.frozen?_alloc_new _ _ _ _⟩, allk, fun i2 j h2 hj => by
    have hjk : j < i.size := by rw [allk] at hj; exact hj
    by_cases h3 : i2 < len
    ·have he : (es.take len ++ news)[i2] = es[i2]'(by omega) := by rw [List.getElem_append_left (by omega), List.getElem_take]
     obtain ⟨v, e1, e2⟩ := hold i2 j (by omega) (by rw [← he]; exact hj) h3
     refine ⟨v, ?_, by simp only [he]; exact e2⟩
     rw [hcellN, List.getElem?_append_left (by rw [List.length_append, hol]; have := idx_lt h3 hjk; omega), List.getElem?_append_left (by rw [hol]; exact idx_lt h3 hjk)]; exact e1
    ·have h4 : i2 - len < news.length := by rw [List.length_append, hlt] at h2; omega
     have he : (es.take len ++ news)[i2] = news[i2 - len] := by rw [List.getElem_append_right (by omega)]; simp only [hlt]
     obtain ⟨u, e1, e2⟩ := hus (i2 - len) j h4 (by rw [← he]; exact hj)
     refine ⟨u, ?_, by simp only [he]; exact e2⟩
     have := idx_lt h4 hjk
     obtain ⟨m, rfl⟩ : ∃ m, i2 = len + m := ⟨i2 - len, by omega⟩
     simp only [Nat.add_sub_cancel_left] at e1 this
     rw [hcellN, Nat.add_mul, Nat.add_assoc, List.getElem?_append_left (by rw [List.length_append, hol, hul]; omega), List.getElem?_append_right (by omega), hol, Nat.add_sub_cancel_left]; exact e1⟩
  refine ⟨bs', g2, ?_⟩
  subst hv
  have := CR.os (V := V) (bs := bs') (p := .v qn) (k := i.size) (off := 0) (len := len + news.length) (cap := c) g1 hc (by rw [hlall]; simp)
  simpa using this
 cases hcr with
 | @os _ _ _ _ b n cap hb hlc hcap =>
  simp only [Nat.zero_mul, Nat.zero_add] at hcap ⊢
  rcases hin with ⟨_, hnone⟩ | ⟨b2, n2, hb2', hr1, hr2, hr3, hr4⟩
  ·rw [hb] at hnone; simp at hnone
  rw [hb] at hb2'; simp at hb2'; obtain ⟨rfl, rfl⟩ := hb2'
  have hle1 : len * i.size ≤ n := Nat.le_trans (Nat.mul_le_mul_right _ hlc) hcap
  obtain ⟨old, hol, holdc⟩ := cells_list (w := w) (b := b) (o := 0) (m := len * i.size) (fun j hj => (hr2 _ (by omega)).1)
  simp only [Nat.zero_add] at holdc
  have holdr : ∀ i2 j (h2 : i2 < es.length) (hj : j < es[i2].length), i2 < len → ∃ v, old[i2 * i.size + j]? = some v ∧ Rd V v es[i2][j] := fun i2 j h2 hj hlt => by
   obtain ⟨v, e1, e2⟩ := hr4 i2 j h2 hj
   have hjk : j < i.size := by rw [hr3 _ h2] at hj; exact hj
   exact ⟨v, by rw [holdc _ (idx_lt hlt hjk)]; exact e1, e2⟩
  by_cases hfit : len + news.length ≤ cap
  ·have hroom : (len + news.length) * i.size ≤ n := Nat.le_trans (Nat.mul_le_mul_right _ hfit) hcap
   have hul2 : len * i.size + us.length ≤ n := by rw [hul, ← Nat.add_mul]; exact hroom
   obtain ⟨w', g1, g2, g3, g4⟩ := run_storeCells (P := P) us w b 0 (len * i.size) (fun j hj => by simpa using hr2 (len * i.size + j) (by omega)) hone
   simp only [Nat.zero_add] at g3 g4
   have hsome : ∀ j, j < n → (w'.cell? ⟨b, j, none⟩).isSome := fun j hj => by
    by_cases hin : len * i.size ≤ j ∧ j < len * i.size + us.length
    ·obtain ⟨q, rfl⟩ : ∃ q, j = len * i.size + q := ⟨j - len * i.size, by omega⟩
     rw [g3 q us[q] (List.getElem?_eq_getElem (by omega))]; rfl
    ·rw [g4 j (by omega)]; exact (hr2 j hj).1
   have hrun := run_append_fits (ty := ty) ht hi hi' hk (b := b) (o := 0) hfit hl0 (hc0 _ (Nat.le_refl _)) (by rw [hfull]; exact g1)
   obtain ⟨bs', k1, k2⟩ := hs.taken hL hle hqn hqn2 hroot (news := news) (w' := w') (b' := b) (n' := n) g2.os g2.tape g2.output (by rw [g2.size]; exact Nat.le_refl _) (.inl hb) (fun k hk hn => g2.other k (by rintro rfl; exact hn _ hb))
    ⟨by rw [List.length_append, hlt]; exact hroom, fun j hj => ⟨hsome j hj, by rw [g2.frozen]; exact (hr2 j hj).2⟩, allk, fun i2 j h2 hj => by
     have hjk : j < i.size := by rw [allk] at hj; exact hj
     by_cases h3 : i2 < len
     ·have he : (es.take len ++ news)[i2] = es[i2]'(by omega) := by rw [List.getElem_append_left (by omega), List.getElem_take]
      obtain ⟨v, e1, e2⟩ := hr4 i2 j (by omega) (by rw [← he]; exact hj)
      refine ⟨v, ?_, by simp only [he]; exact e2⟩
      rw [g4 _ (.inl (idx_lt h3 hjk))]; exact e1
     ·have h4 : i2 - len < news.length := by rw [List.length_append, hlt] at h2; omega
      have he : (es.take len ++ news)[i2] = news[i2 - len] := by rw [List.getElem_append_right (by omega)]; simp only [hlt]
      obtain ⟨u, e1, e2⟩ := hus (i2 - len) j h4 (by rw [← he]; exact hj)
      refine ⟨u, ?_, by simp only [he]; exact e2⟩
      obtain ⟨m, rfl⟩ : ∃ m, i2 = len + m := ⟨i2 - len, by omega⟩
      simp only [Nat.add_sub_cancel_left] at e1
      rw [Nat.add_mul, Nat.add_assoc]; exact g3 _ _ e1⟩
   refine ⟨_, w', bs', hrun, k2, ?_⟩
   ·have := CR.os (V := V) (bs := bs') (p := .v qn) (k := i.size) (off := 0) (len := len + news.length) (cap := cap) k1 hfit (by simpa using hcap)
    simpa using this
  ·have hold : (Builtin.firstCells i.size len (.slice (some ⟨b, 0, none⟩) len cap)).run P w.drew = .ok old.toArray w.drew := by
    have := run_loadCells_list (P := P) w.drew ⟨b, 0, none⟩ old (fun j u hj => by
     rw [add_eq]
     have hjl := (List.getElem?_eq_some_iff.1 hj).1
     rw [holdc j (by omega)] at hj
     simpa using hj)
    rw [hol] at this
    simpa [Builtin.firstCells] using this
   obtain ⟨c, rest, h4, h5, hrun⟩ := run_append_grow (ty := ty) ht hi hz hi' hk (by omega) hb1 hb2 hl0 hold (hc1 _ (Nat.le_refl _))
   rw [hfull] at hrun
   have hobj : (old.toArray ++ us.toArray ++ rest.toArray) = ((old ++ us) ++ rest).toArray := by apply Array.ext'; simp
   rw [hobj] at hrun
   obtain ⟨bs', k1, k2⟩ := grow old rest c hol holdr h4 h5 (.slice (some ⟨w.heap.size, 0, none⟩) (len + news.length) c) rfl
   exact ⟨_, _, bs', hrun, k1, k2⟩
 | oszero =>
  rename_i ad
  obtain ⟨c, rest, h4, h5, hrun⟩ := run_append_grow (ty := ty) ht hi hz hi' hk (base := ad) (len := 0) (cap := 0) (old := #[]) (by omega) hb1 hb2 hl0 (by cases ad <;> simp [Builtin.firstCells, loadCells, loadCellsFrom]) (hc1 _ (Nat.le_refl _))
  rw [hfull] at hrun
  have hobj : (#[] ++ us.toArray ++ rest.toArray) = (([] ++ us) ++ rest).toArray := by apply Array.ext'; simp
  rw [hobj] at hrun
  obtain ⟨bs', k1, k2⟩ := grow [] rest c (by simp) (fun i2 j h2 hj hlt => by omega) h4 h5 (.slice (some ⟨w.heap.size, 0, none⟩) (0 + news.length) c) rfl
  exact ⟨_, _, bs', hrun, k1, k2⟩
end
end Go.Proofs.Ytpdjehnlejjfmaa.D
/- append, in all its ways. -/
namespace Go.Proofs.Ytpdjehnlejjfmaa.D
open Go.RowKit

section
variable {P : Program} (tb : Tab P) {w0 : World} {M : Rows0} {N : Nat} {V V0 : View} {bs : Loc} {S : St} {a : Act} {w : World}

theorem outN_ge (p nm : Nat) : 1000 ≤ outN p nm := by
 have : TKN * 1 ≤ TKN * (rt p + 1) := Nat.mul_le_mul_left _ (by omega)
 simp only [outN, TKN] at *; omega
theorem outN_rt (p : Nat) {nm : Nat} (h : nm < TKN) : rt (outN p nm) = rt p := by
 have h1 : TKN * 1 ≤ TKN * (rt p + 1) := Nat.mul_le_mul_left _ (by omega)
 have h2 : ¬ outN p nm < TKN := by simp only [outN]; omega
 have h3 : outN p nm / TKN = rt p + 1 := by
  simp only [outN]
  rw [Nat.mul_add_div (by simp [TKN]), Nat.div_eq_of_lt h]
 conv => lhs; unfold rt
 rw [if_neg h2, h3]; rfl

theorem appD_ok (hs : Sat1 w0 M N V bs S a w) (h0 : V0.le V) (h1 : ∀ x v, V x = some v → V0 x = some v ∨ w0.heap.size ≤ x.block) {o : Oper} (hd : ∀ t, o.dst = some t → t < N) {nm : Nat} {s x : Operand} {t t' : TypeId}
  (ho : o.op = .call { callee := .builtin .append, args := #[s, x], argTypes := #[t, t'] }) {K : St → Prop} {Q : Exit → Act → World → Prop} (h : appD tb.tb nm S o.dst s x t t' K) :
  o.wp P a w (fun a' w' => ∃ S', K S' ∧ Sat w0 M N V0 S' a' w') Q := by
 have hev : ∀ x, VR V bs (S.ev x) (a.eval x) := ev_ok hs.tmps
 have hex : ∀ v w', (Builtin.append_ #[t, t'] o.type #[a.eval s, a.eval x]).run P w = .ok v w' → (execOp a.eval o).run P w = .ok (.value v) w' := by
  intro v w' hr
  simp [execOp, ho, resolve, invoke, builtin, hr]
 unfold appD at h
 split at h
 ·rename_i e _ _ _ _ htb
  split at h
  ·rename_i i i' hi hi'
   obtain ⟨⟨hk, hz⟩, h⟩ := h
   have hT := (tb.ok _ _ htb).slice rfl
   have hI := tb.ok _ _ hi
   have hI' := tb.ok _ _ hi'
   have hk' : (∃ e, i'.kind = .slice e) ∨ i'.kind = .string := by
    cases hkk : i'.kind <;> rw [hkk] at hk <;> simp [TK.seq] at hk
    ·exact .inr rfl
    ·exact .inl ⟨_, rfl⟩
   split at h
   ·rename_i hsv
    obtain ⟨⟨hnm, hnm2⟩, h⟩ := h
    obtain ⟨news, us, ⟨⟨hb1, hb2⟩, hK⟩, hf, hl, _⟩ := srcD_ok hs (hev x) h
    have hs0 : a.eval s = .slice none 0 0 := by
     have h2 := hev s; rw [hsv] at h2
     generalize a.eval s = sv at h2
     have h2 := vr_one h2; cases h2; rfl
    obtain ⟨hl0, hc0⟩ := hl w fun _ => rfl
    obtain ⟨_, hc1⟩ := hl w.drew fun _ => rfl
    by_cases hne : news = []
    ·subst hne
     have hrun := run_append_nothing (ty := o.type) hT hI hI' hk' (ad := none) (cap := 0) (by simpa using hl0) (by simpa using hc0 0 (by simp))
     refine wp_value (hex _ _ (by rw [hs0]; exact hrun)) ⟨_, hK, ?_⟩
     exact ((hs.empty hnm hnm2 i.size).put hd (.one .oszero)).sat h0 h1
    ·have hpos : 0 < news.length := by cases news with | nil => exact absurd rfl hne | cons _ _ => simp
     have hfull : us.take (news.length * i.size) = us := by rw [← hf.1]; exact List.take_length
     obtain ⟨c, rest, h4, h5, hrun⟩ := run_append_grow (ty := o.type) hT hI hz hI' hk' (base := none) (len := 0) (cap := 0) (old := #[]) (by omega) (by simpa using hb1) (by simpa using hb2) hl0 (by simp [Builtin.firstCells]) (hc1 _ (Nat.le_refl _))
     rw [hfull] at hrun
     have hobj : (#[] ++ us.toArray ++ rest.toArray) = (us ++ rest).toArray := by apply Array.ext'; simp
     rw [hobj] at hrun
     simp only [Nat.zero_add] at h4 h5 hrun
     have hsd : Sat1 w0 M N V bs S a w.drew := hs.drew _
     refine wp_value (hex _ _ (by rw [hs0]; exact hrun)) ⟨_, hK, ?_⟩
     refine ((hsd.alloc hnm hnm2 (rowSat_new (t := e) (rest := rest) hf)).put hd (.one ?_)).sat h0 h1
     have := CR.os (V := V) (bs := upd bs (.v nm) (some (w.drew.heap.size, (us ++ rest).length))) (p := .v nm) (k := i.size) (off := 0) (len := news.length) (cap := c) (upd_same _ _ _) h4 (by simp [hf.1, h5, ← Nat.add_mul]; exact Nat.le_of_eq (congrArg (· * i.size) (by omega)))
     simpa using this
   ·rename_i p k len hsv
    split at h
    ·rename_i k' es hL
     obtain ⟨⟨hik, rfl, hle⟩, h⟩ := h
     have h2 := hev s; rw [hsv] at h2
     have hcr := vr_one h2
     rcases h with h | h
     ·obtain ⟨news, us, ⟨⟨hb1, hb2⟩, hK⟩, hf, hsrc⟩ := srcD_src (P := P) hs (hev x) h
      rw [← hik] at hf hsrc
      obtain ⟨v, w', bs', hrun, g1, g2⟩ := appB_ok (ty := o.type) hs hL hle hcr none (fun q off h => by simp at h) hT hI hz hI' hk' hik hsrc hf.2.1 (fun i2 j h3 h4 => by obtain ⟨u, e1, e2⟩ := hf.2.2 i2 j h3 h4; exact ⟨u, e1, fun _ => e2, fun q off h => by simp at h⟩) hb1 hb2 (.inl rfl)
      exact wp_value (hex _ _ hrun) ⟨_, hK, (g1.put hd (.one g2)).sat h0 h1⟩
     ·obtain ⟨q, off, news, ⟨⟨hpos, hb1, hb2⟩, hK⟩, hqp, hq, hsrc⟩ := eatD_src (P := P) hs (hev x) h
      obtain ⟨us, hsrc, hnk, hus⟩ := hsrc hpos
      rw [← hik] at hsrc hnk hus
      obtain ⟨v, w', bs', hrun, g1, g2⟩ := appB_ok (ty := o.type) hs hL hle hcr (some (q, off)) (fun q' off' h => by simp at h; obtain ⟨rfl, rfl⟩ := h; exact ⟨hqp, hq⟩) hT hI hz hI' hk' hik hsrc hnk (fun i2 j h3 h4 => by obtain ⟨u, e1, e2⟩ := hus i2 j h3 h4; exact ⟨u, e1, fun h => by simp at h, fun q' off' h => by simp at h; obtain ⟨rfl, rfl⟩ := h; exact e2⟩) hb1 hb2 (.inr hpos)
      exact wp_value (hex _ _ hrun) ⟨_, hK, (g1.put hd (.one g2)).sat h0 h1⟩
    ·exact h.elim
   ·rename_i p i1 j1 k len hsv
    split at h
    ·rename_i k' es hL
     obtain ⟨⟨hik, rfl, hle, hqn, hnm⟩, h⟩ := h
     have h2 := hev s; rw [hsv] at h2
     have hcr := vr_one h2
     obtain ⟨news, us, ⟨⟨hpos, hb1, hb2⟩, hK⟩, hf, hsrc⟩ := srcD_src (P := P) hs (hev x) h
     rw [← hik] at hf hsrc
     obtain ⟨v, w', bs', hrun, g1, g2⟩ := appC_ok (ty := o.type) hs hL hle hcr hqn (outN_ge p nm) (outN_rt p hnm) hT hI hz hI' hk' hik hsrc hf hb1 hb2 hpos
     exact wp_value (hex _ _ hrun) ⟨_, hK, (g1.put hd (.one g2)).sat h0 h1⟩
    ·exact h.elim
   ·rename_i p off k n hsv
    split at h
    ·rename_i cs hL
     split at h
     ·rename_i ds hds
      obtain ⟨⟨rfl, hdl, hnm, hnm2⟩, h⟩ := h
      obtain ⟨news, us, ⟨⟨hpos, hb1, hb2⟩, hK⟩, hf, hl, _⟩ := srcD_ok hs (hev x) h
      obtain ⟨hl0, hc0⟩ := hl w fun _ => rfl
      obtain ⟨_, hc1⟩ := hl w.drew fun _ => rfl
      have hfull : us.take (news.length * i.size) = us := by rw [← hf.1]; exact List.take_length
      have h2 := hev s; rw [hsv] at h2
      generalize hse : a.eval s = sv at h2
      rw [hse] at hex
      have hcr := vr_one h2
      have hsd : Sat1 w0 M N V bs S a w.drew := hs.drew _
      cases hcr with
      | @sb _ _ _ _ b m hb =>
       obtain ⟨hn, hfz, _, vs, hvs, hcell⟩ : RowSat V bs w p b m (.box cs) := by
        rcases hs.rows p _ hL with ⟨b', n', hb', hr⟩ | ⟨_, k, hk⟩
        ·rw [hb] at hb'; simp at hb'; obtain ⟨rfl, rfl⟩ := hb'; exact hr
        ·simp at hk
       have hrd := cvDs_ok ((hvs.drop off).take (n * i.size)) hds
       have hfo := chunks_flat i.size n ds _ hrd hdl
       have hol : ((vs.drop off).take (n * i.size)).length = n * i.size := by rw [hfo.1, chunks_length]
       have hold : (Builtin.firstCells i.size n (.slice (some ⟨b, off, none⟩) n n)).run P w.drew = .ok ((vs.drop off).take (n * i.size)).toArray w.drew := by
        have := run_loadCells_list (P := P) w.drew ⟨b, off, none⟩ ((vs.drop off).take (n * i.size)) (fun j u hj => by
         rw [add_eq]
         rw [List.getElem?_take] at hj
         split at hj
         ·rw [List.getElem?_drop] at hj
          exact hcell _ _ hj
         ·simp at hj)
        rw [hol] at this
        simpa [Builtin.firstCells] using this
       obtain ⟨c, rest, h4, h5, hrun⟩ := run_append_grow (ty := o.type) hT hI hz hI' hk' (by omega) hb1 hb2 hl0 hold (hc1 _ (Nat.le_refl _))
       rw [hfull] at hrun
       have hall := hfo.append hf
       have hobj : (((vs.drop off).take (n * i.size)).toArray ++ us.toArray ++ rest.toArray) = ((((vs.drop off).take (n * i.size)) ++ us) ++ rest).toArray := by apply Array.ext'; simp
       rw [hobj] at hrun
       refine wp_value (hex _ _ hrun) ⟨_, hK, ?_⟩
       refine ((hsd.alloc hnm hnm2 (rowSat_new (t := e) (rest := rest) hall)).put hd (.one ?_)).sat h0 h1
       have := CR.os (V := V) (bs := upd bs (.v nm) (some (w.drew.heap.size, (((vs.drop off).take (n * i.size) ++ us) ++ rest).length))) (p := .v nm) (k := i.size) (off := 0) (len := n + news.length) (cap := c) (upd_same _ _ _) h4
        (by simp only [List.length_append, hol, hf.1, h5, Nat.zero_add, ← Nat.add_mul]; exact Nat.le_of_eq (congrArg (· * i.size) (by omega)))
       simpa using this
     ·exact h.elim
    ·exact h.elim
   ·exact h.elim
  ·exact h.elim
 ·exact h.elim
end
end Go.Proofs.Ytpdjehnlejjfmaa.D
/- The operations that make rows, or write to them. -/
namespace Go.Proofs.Ytpdjehnlejjfmaa.D
open Go.RowKit

def zerosD (z : List Z) : List DV := z.map fun c => match c with | .zl => .sl [] | c => .sc c.val

def zW : List Nat → List Z → List DV
 | _, [] => []
 | ws, .zl :: zs => .ow (ws.headD 0) 0 0 [] :: zW ws.tail zs
 | ws, z :: zs => .sc z.val :: zW ws.tail zs
def ndup (qs : List (Option Nat)) : Prop := (qs.filterMap id).Nodup
def plainCs : List CV → Option (List DV)
 | [] => some []
 | .dv d :: cs => (plainCs cs).map (d :: ·)
 | .nil :: cs => (plainCs cs).map (.sl [] :: ·)
 | _ => none
def storeD (S : St) (c : CV) (cs : List CV) (K : St → Prop) : Prop :=
 match c with
 | .ptr p off => (match S.L p with | some (.box old) => off + cs.length ≤ old.length ∧ K (S.new p (.box (old.take off ++ cs ++ old.drop (off + cs.length)))) | _ => False)
 | .ep (.v p) k i f =>
  (deepCells S cs fun S' ds =>
   (match S'.L p with
   | some (.own k' es) => (k = k' ∧ i < es.length ∧ f + ds.length ≤ k) ∧ K (S'.new p (.own k (es.set i ((es.getD i []).take f ++ ds ++ (es.getD i []).drop (f + ds.length)))))
   | _ => False)) ∨
  ∃ ws, moveD S p (some (i, f)) ws cs fun ds qs =>
   (match S.L p with
   | some (.own k' es) => (k = k' ∧ i < es.length ∧ f + ds.length ≤ k ∧ ndup qs) ∧ K (((S.gone qs).killH p).new p (.own k (es.set i ((es.getD i []).take f ++ ds ++ (es.getD i []).drop (f + ds.length)))))
   | _ => False)
 | .ep (.h p a b) k i f =>
  (match plainCs cs, S.L p with
  | some ds, some (.own k0 es0) =>
   (match es0[a]? with
   |some e => (match e[b]? with
    | some (.ow k' off len es) => (k = k' ∧ i < es.length ∧ f + ds.length ≤ k) ∧ K (S.new p (.own k0 (es0.set a (e.set b (.ow k' off len (es.set i ((es.getD i []).take f ++ ds ++ (es.getD i []).drop (f + ds.length))))))))
    | _ => False)
   | none => False)
  | _, _ => False)
 | _ => False

def memD (tb : TypeId → Option TyI) (nm : Nat) (S : St) (op : Op) (dst : Option Tmp) (K : St → Prop) : Prop :=
 match op with
 |.box _ x => (match (S.ev x).cells? with
  | some cs => (S.L nm = none ∧ 1000 ≤ nm) ∧ (K ((S.new nm (.box cs)).put dst (.one (.ptr nm 0))) ∨
    ∃ ws, moveD S nm none ws cs fun ds qs => ndup qs ∧ K ((((S.gone qs).killH nm).new nm (.own cs.length [ds])).put dst (.one (.ep (.v nm) cs.length 0 0))))
  | none => False)
 |.alloc t => (match tb t with
  | some i => (i.zero ≠ [] ∧ S.L nm = none ∧ 1000 ≤ nm) ∧ (K ((S.new nm (.box (i.zero.map Z.cv))).put dst (.one (.ptr nm 0))) ∨
    ∃ ws, K ((S.new nm (.own i.size [zW ws i.zero])).put dst (.one (.ep (.v nm) i.size 0 0))))
  | none => False)
 | .store t x v =>
  (match tb t, S.ev x, (S.ev v).cells? with
  | some i, .one c, some cs => (cs.length = i.size ∧ cs.all cellOk = true) ∧ storeD S c cs fun S' => K (S'.put dst (.one .dead))
  | _, _, _ => False)
 | .buildSlice t len parts =>
  (match tb t with
  | some { kind := .slice e, .. } =>
   (match tb e with
   |some i => (i.zero ≠ [] ∧ S.L nm = none ∧ 1000 ≤ nm ∧ len * i.size ≤ 2 ^ 24) ∧
    (match fillC (fun j => some (j * i.size, i.size)) (List.replicate len (i.zero.map Z.cv)).flatten (parts.toList.map fun p => (p.1, S.ev p.2)) with
    | some cs => (deepCells S cs fun S' ds => K ((S'.new nm (.own i.size (chunks i.size len ds))).put dst (.one (.os (.v nm) i.size 0 len)))) ∨
      ∃ ws, moveD S nm none ws cs fun ds qs => ndup qs ∧ K ((((S.gone qs).killH nm).new nm (.own i.size (chunks i.size len ds))).put dst (.one (.os (.v nm) i.size 0 len)))
    | none => False)
   | none => False)
  | _ => False)
 | .makeSlice t l c =>
  (match tb t with
  | some { kind := .slice e, .. } =>
   (match tb e with
   | some i => mapInt S l fun _ l => mapInt S c fun _ c => (i.zero ≠ [] ∧ S.L nm = none ∧ 1000 ≤ nm ∧ 0 ≤ l ∧ l ≤ c ∧ c ≤ 2 ^ 40 ∧ i.bytes * c ≤ 2 ^ 48) ∧
     K ((S.new nm (.own i.size (List.replicate l.toNat (zerosD i.zero)))).put dst (.one (.os (.v nm) i.size 0 l.toNat)))
   | none => False)
  | _ => False)
 | .call c =>
  (match c.callee, c.args.toList, c.argTypes.toList with
  | .builtin .append, [s, x], [t, t'] => appD tb nm S dst s x t t' K
  | _, _, _ => callValD tb S c.callee c.args.toList c.argTypes.toList fun v => K (S.put dst v))
 | .convert src dstT x =>
  (match tb src, tb dstT, S.ev x with
  | some { kind := .string, .. }, some { kind := .slice e, .. }, .one (.dv (.sc (.string s))) =>
   (match tb e with
   | some { kind := .int .u8, .. } => (S.L nm = none ∧ 1000 ≤ nm) ∧ K ((S.new nm (.own 1 (s.data.toList.map fun b => [.sc (.int .u8 b.toNat)]))).put dst (.one (.os (.v nm) 1 0 s.size)))
   | _ => False)
  | some { kind := .slice _, .. }, some { kind := .string, .. }, .one (.dv (.sc _)) => False
  | some { kind := .slice e, .. }, some { kind := .string, .. }, v =>
   (match tb e with
   | some { kind := .int .u8, .. } => srcD S 1 v fun es => ∃ bs : List UInt8, es = bs.map (fun b => [.sc (.int .u8 b.toNat)]) ∧ K (S.put dst (vS ⟨bs.toArray⟩))
   | _ => False)
  | _, _, _ => valD tb S op fun v => K (S.put dst v))
 | op => valD tb S op fun v => K (S.put dst v)

section
variable {P : Program} (tb : Tab P) {w0 : World} {M : Rows0} {N : Nat} {V V0 : View} {bs : Loc} {S : St} {a : Act} {w : World}

theorem all_one {cs : List CV} {vs : List Value} (h : CRs V bs cs vs) (hc : cs.all cellOk = true) : ∀ v ∈ vs, v.oneCell' = true := by
 induction h with
 | nil => simp
 | cons h _ ih =>
  simp only [List.all_cons, Bool.and_eq_true] at hc
  intro v hv
  rcases List.mem_cons.1 hv with rfl | hv
  ·exact cellOk_one h hc.1
  ·exact ih hc.2 v hv

theorem plainCs_ok {cs : List CV} {vs : List Value} (h : CRs V bs cs vs) : ∀ {ds : List DV}, plainCs cs = some ds → RdL V vs ds := by
 induction h with
 | nil => intro ds hd; simp [plainCs] at hd; subst hd; exact .nil
 | cons h _ ih =>
  intro ds hd
  unfold plainCs at hd
  split at hd
  ·rename_i e; simp at e
  ·rename_i e
   injection e with e1 e2; subst e1; subst e2
   simp only [Option.map_eq_some_iff] at hd
   obtain ⟨ds', h1, rfl⟩ := hd
   cases h with | dv h => exact .cons h (ih h1)
  ·rename_i e
   injection e with e1 e2; subst e1; subst e2
   simp only [Option.map_eq_some_iff] at hd
   obtain ⟨ds', h1, rfl⟩ := hd
   cases h; exact .cons (.nil _ _) (ih h1)
  ·simp at hd
theorem ndup_inj {qs : List (Option Nat)} (h : ndup qs) : ∀ {m m' q : Nat}, qs[m]? = some (some q) → qs[m']? = some (some q) → m = m' := by
 unfold ndup at h
 induction qs with
 | nil => intro m m' q h1; simp at h1
 | cons o qs ih =>
  intro m m' q h1 h2
  have mem : ∀ {m : Nat}, qs[m]? = some (some q) → q ∈ qs.filterMap id := fun h => List.mem_filterMap.2 ⟨_, List.mem_of_getElem? h, rfl⟩
  cases o with
  | none =>
   cases m with
   | zero => simp at h1
   |succ m => cases m' with
    | zero => simp at h2
    | succ m' => exact congrArg (· + 1) (ih (by simpa using h) (by simpa using h1) (by simpa using h2))
  | some x =>
   simp only [List.filterMap_cons, id] at h
   obtain ⟨h3, h4⟩ := List.nodup_cons.1 h
   cases m with
   | zero =>
    simp at h1; subst h1
    cases m' with
    | zero => rfl
    | succ m' => exact absurd (mem (by simpa using h2)) h3
   |succ m => cases m' with
    | zero => simp at h2; subst h2; exact absurd (mem (by simpa using h1)) h3
    | succ m' => exact congrArg (· + 1) (ih h4 (by simpa using h1) (by simpa using h2))

theorem new_elem {ds old : List DV} {f k : Nat} (hel : old.length = k) (hfl : f + ds.length ≤ k) : (old.take f ++ ds ++ old.drop (f + ds.length)).length = k ∧
  (∀ m (hm : m < k), (m < f ∨ f + ds.length ≤ m) → (old.take f ++ ds ++ old.drop (f + ds.length))[m]? = old[m]?) ∧ (∀ m, m < ds.length → (old.take f ++ ds ++ old.drop (f + ds.length))[f + m]? = ds[m]?) := by
 have e1 : (old.take f).length = f := by simp; omega
 refine ⟨by simp [hel]; omega, fun m hm h => ?_, fun m hm => ?_⟩
 ·rcases h with h | h
  ·rw [List.getElem?_append_left (by rw [List.length_append, e1]; omega), List.getElem?_append_left (by omega), List.getElem?_take, if_pos h]
  ·rw [List.getElem?_append_right (by rw [List.length_append, e1]; omega), List.getElem?_drop, List.length_append, e1, show f + ds.length + (m - (f + ds.length)) = m by omega]
 ·rw [List.getElem?_append_left (by rw [List.length_append, e1]; omega), List.getElem?_append_right (by omega), e1, Nat.add_sub_cancel_left]

theorem set_cells {es : List (List DV)} {i f k : Nat} {ds : List DV} (hk : ∀ j (h : j < es.length), es[j].length = k) (hi : i < es.length) (hfl : f + ds.length ≤ k) :
  let es' := es.set i ((es.getD i []).take f ++ ds ++ (es.getD i []).drop (f + ds.length))
  (∀ j (h : j < es'.length), es'[j].length = k) ∧ es'.length = es.length ∧ ∀ j m (hj : j < es'.length) (hm : m < es'[j].length),
   (j = i ∧ f ≤ m ∧ m < f + ds.length ∧ ds[m - f]? = some es'[j][m]) ∨ (¬ (j = i ∧ f ≤ m ∧ m < f + ds.length) ∧ ∃ (h1 : j < es.length) (h2 : m < es[j].length), es'[j][m] = es[j][m]) := by
 have hgd : es.getD i [] = es[i] := by simp [List.getD, hi]
 obtain ⟨n1, n2, n3⟩ := new_elem (ds := ds) (old := es[i]) (f := f) (hk i hi) hfl
 intro es'
 have hes : es' = es.set i (es[i].take f ++ ds ++ es[i].drop (f + ds.length)) := by simp only [es', hgd]
 have hl : es'.length = es.length := by simp [hes]
 refine ⟨fun j hj => ?_, hl, fun j m hj hm => ?_⟩
 ·simp only [hes, List.getElem_set]; split
  ·exact n1
  ·exact hk _ _
 ·by_cases hji : j = i
  ·subst hji
   have h0 : es'[j] = es[j].take f ++ ds ++ es[j].drop (f + ds.length) := by simp [hes]
   have hmk : m < k := by rw [h0, n1] at hm; exact hm
   by_cases hin : f ≤ m ∧ m < f + ds.length
   ·left
    refine ⟨rfl, hin.1, hin.2, ?_⟩
    have := n3 (m - f) (by omega)
    rw [show f + (m - f) = m by omega] at this
    rw [← this]
    simp only [h0]
    exact List.getElem?_eq_getElem _
   ·right
    refine ⟨fun h => hin h.2, hi, by rw [hk j hi]; exact hmk, ?_⟩
    have := n2 m hmk (by omega)
    simp only [h0]
    rw [List.getElem?_eq_getElem (by rw [n1]; exact hmk), List.getElem?_eq_getElem (by rw [hk j hi]; exact hmk)] at this
    injection this
  ·right
   have h0 : es'[j] = es[j]'(by omega) := by simp only [hes]; rw [List.getElem_set, if_neg (Ne.symm hji)]
   refine ⟨fun h => hji h.1, by omega, by rw [← h0]; exact hm, ?_⟩
   simp only [h0]

theorem wrote_cells {b n k i f : Nat} {es : List (List DV)} {vs : List Value} (hr1 : es.length * k ≤ n) (hr2 : ∀ j, j < n → (w.cell? ⟨b, j, none⟩).isSome ∧ w.frozen? ⟨b, j, none⟩ = false) (hi : i < es.length) (hfl : f + vs.length ≤ k) (hone : ∀ v ∈ vs, v.oneCell' = true) :
  ∃ w', (storeCells ⟨b, i * k + f, none⟩ vs).run P w = .ok () w' ∧ Wrote b w w' ∧ (∀ j, j < n → (w'.cell? ⟨b, j, none⟩).isSome ∧ w'.frozen? ⟨b, j, none⟩ = false) ∧ (∀ m v, vs[m]? = some v → w'.cell? ⟨b, i * k + (f + m), none⟩ = some v) ∧
   ∀ j m, m < k → ¬ (j = i ∧ f ≤ m ∧ m < f + vs.length) → w'.cell? ⟨b, j * k + m, none⟩ = w.cell? ⟨b, j * k + m, none⟩ := by
 have hik : (i + 1) * k ≤ es.length * k := Nat.mul_le_mul_right k hi
 have hik' : (i + 1) * k = i * k + k := by rw [Nat.add_mul]; simp
 obtain ⟨w', g1, g2, g3, g4⟩ := run_storeCells (P := P) vs w b (i * k + f) 0 (fun j hj => by
  simpa using hr2 (i * k + f + j) (by omega)) hone
 simp only [Nat.zero_add, Nat.add_zero] at g3 g4
 refine ⟨w', g1, g2, fun j hj => ⟨?_, by rw [g2.frozen]; exact (hr2 j hj).2⟩, fun m v hm => by rw [← Nat.add_assoc]; exact g3 m v hm, fun j m hm hn => g4 _ ?_⟩
 ·by_cases hin : i * k + f ≤ j ∧ j < i * k + f + vs.length
  ·obtain ⟨q, rfl⟩ : ∃ q, j = i * k + f + q := ⟨j - (i * k + f), by omega⟩
   rw [g3 q vs[q] (List.getElem?_eq_getElem (by omega))]; rfl
  ·rw [g4 j (by omega)]; exact (hr2 j hj).1
 ·rcases Nat.lt_trichotomy j i with h | h | h
  ·have : (j + 1) * k ≤ i * k := Nat.mul_le_mul_right k h
   have e2 : (j + 1) * k = j * k + k := by rw [Nat.add_mul]; simp
   omega
  ·subst h; omega
  ·have : (i + 1) * k ≤ j * k := Nat.mul_le_mul_right k h
   omega

open Classical in
open Classical in
/-- A row that is written cell by cell. -/
theorem storeD_ok (hs : Sat1 w0 M N V bs S a w) (h0 : V0.le V) (h1 : ∀ x v, V x = some v → V0 x = some v ∨ w0.heap.size ≤ x.block) {c : CV} {v : Value} {cs : List CV} {vs : List Value} (hc : CR V bs c v) (hcs : CRs V bs cs vs)
  (hone : ∀ v ∈ vs, v.oneCell' = true) {K : St → Prop} (h : storeD S c cs K) :
  ∃ b o S' w', K S' ∧ v = .pointer (some ⟨b, o, none⟩) ∧ (storeCells ⟨b, o, none⟩ vs).run P w = .ok () w' ∧ Sat w0 M N V0 S' a w' := by
 have hlen := hcs.length
 unfold storeD at h
 split at h
 ·rename_i p off
  split at h
  ·rename_i old hL
   obtain ⟨hle, hK⟩ := h
   cases hc with
   | @ptr _ _ b n hb =>
    obtain ⟨hn, hf, hnn, us, hu, hcell⟩ : RowSat V bs w p b n (.box old) := by
     rcases hs.rows p _ hL with ⟨b', n', hb', hr⟩ | ⟨_, k, hk⟩
     ·rw [hb] at hb'; simp at hb'; obtain ⟨rfl, rfl⟩ := hb'; exact hr
     ·simp at hk
    have hul := hu.length
    obtain ⟨w', g1, g2, g3, g4⟩ := run_storeCells (P := P) vs w b off 0 (fun j hj => by
     have hj' : off + (0 + j) < us.length := by omega
     refine ⟨?_, hf _ (by omega)⟩
     rw [hcell _ _ (List.getElem?_eq_getElem hj')]; rfl) hone
    simp only [Nat.zero_add, Nat.add_zero] at g3 g4
    refine ⟨b, off, _, w', hK, rfl, g1, (hs.wrote hb g2 (r := .box (old.take off ++ cs ++ old.drop (off + cs.length))) ⟨b, n, hb, by simp; omega, fun j hj => by rw [g2.frozen]; exact hf j hj, hnn, us.take off ++ vs ++ us.drop (off + cs.length), ((hu.take off).append hcs).append (hu.drop _), fun j u hj => ?_⟩).sat h0 h1⟩
    by_cases h5 : j < off
    ·rw [g4 j (.inl h5)]
     have hlt : j < (us.take off ++ vs).length := by simp; omega
     rw [List.getElem?_append_left hlt, List.getElem?_append_left (by simp; omega), List.getElem?_take, if_pos h5] at hj
     exact hcell _ _ hj
    ·by_cases h6 : j < off + vs.length
     ·rw [List.getElem?_append_left (by simp; omega), List.getElem?_append_right (by simp; omega)] at hj
      have e1 : (us.take off).length = off := by simp; omega
      rw [e1] at hj
      have := g3 _ _ hj
      rwa [show off + (j - off) = j by omega] at this
     ·rw [List.getElem?_append_right (by simp; omega), List.getElem?_drop] at hj
      have e1 : off + cs.length + (j - (us.take off ++ vs).length) = j := by simp; omega
      rw [e1] at hj
      rw [g4 j (.inr (by omega))]
      exact hcell _ _ hj
  ·exact h.elim
 ·rename_i p k i f
  cases hc with
  | @ep _ _ _ _ b n hb =>
   rcases h with h | ⟨ws, h⟩
   ·obtain ⟨S', V', bs', ds, hK, hV, hpost, hs', hrd, hnone, hbs⟩ := deepCells_ok _ cs vs _ rfl hs hcs h
    split at hK
    ·rename_i k' es hL
     obtain ⟨⟨rfl, hi, hfl⟩, hK⟩ := hK
     have hb' : bs' (.v p) = some (b, n) := by rw [hbs (.v p) (by simp only [Nm.top]; rw [hL]; simp)]; exact hb
     obtain ⟨hr1, hr2, hr3, hr4⟩ : RowSat V' bs' w p b n (.own k es) := by
      rcases hs'.rows p _ hL with ⟨b', n', hb'', hr⟩ | ⟨hb'', k0, hk⟩
      ·rw [hb'] at hb''; simp at hb''; obtain ⟨rfl, rfl⟩ := hb''; exact hr
      ·rw [hb'] at hb''; simp at hb''
     have hdl := hrd.length
     obtain ⟨w', g1, g2, g3, g4, g5⟩ := wrote_cells (P := P) (f := f) hr1 hr2 hi (by omega) hone
     obtain ⟨e1, e2, e3⟩ := set_cells hr3 hi hfl
     have hpost' : ∀ x v, V' x = some v → V0 x = some v ∨ w0.heap.size ≤ x.block := fun x v hx => (hpost x v hx).elim (h1 x v) .inr
     refine ⟨b, i * k + f, _, w', hK, rfl, g1, (hs'.wrote hb' g2 (r := .own k _) ⟨b, n, hb', by rw [e2]; exact hr1, g3, e1, fun j m hj hm => ?_⟩).sat (h0.trans hV) hpost'⟩
     rcases e3 j m hj hm with ⟨rfl, h2, h3, h4⟩ | ⟨h2, h3, h4, h5⟩
     ·obtain ⟨v, h6, h7⟩ := hrd.get (m - f) (by omega)
      have := g4 _ _ h6
      rw [show f + (m - f) = m by omega] at this
      refine ⟨v, this, .rd ?_⟩
      rw [List.getElem?_eq_getElem (by omega)] at h4
      injection h4 with h4; rw [← h4]; exact h7
     ·obtain ⟨v, h6, h7⟩ := hr4 j m h3 h4
      refine ⟨v, by rw [g5 j m (by rw [e1] at hm; exact hm) (by rw [hdl]; exact h2)]; exact h6, ?_⟩
      rw [h5]
      exact h7.mono (View.le.refl _) rfl fun b2 n2 hb2 => g2.other _ (by rintro rfl; have := hs'.inj _ _ _ _ _ hb2 hb'; simp at this)
    ·exact hK.elim
   ·obtain ⟨ds, qs, hK, hm⟩ := moveD_ok hs hcs h
    split at hK
    ·rename_i k' es hL
     obtain ⟨⟨rfl, hi, hfl, hnd⟩, hK⟩ := hK
     obtain ⟨hr1, hr2, hr3, hr4⟩ : RowSat V bs w p b n (.own k es) := by
      rcases hs.rows p _ hL with ⟨b', n', hb'', hr⟩ | ⟨hb'', k0, hk⟩
      ·rw [hb] at hb''; simp at hb''; obtain ⟨rfl, rfl⟩ := hb''; exact hr
      ·rw [hb] at hb''; simp at hb''
     have hdl := hm.l1
     obtain ⟨w', g1, g2, g3, g4, g5⟩ := wrote_cells (P := P) (f := f) hr1 hr2 hi (by omega) hone
     obtain ⟨e1, e2, e3⟩ := set_cells hr3 hi hfl
     let inr : Nat → Nat → Prop := fun j m => j = i ∧ f ≤ m ∧ m < f + ds.length
     let g : Nat → Nat → Option Nat := fun j m => if inr j m then (match qs[m - f]? with | some (some q) => (if ∃ v d, vs[m - f]? = some v ∧ ds[m - f]? = some d ∧ CellR V bs w (.v q) v d then some q else none) | _ => none) else none
     let kd : Nat → Nat → Prop := fun j m => ∃ v d, vs[m - f]? = some v ∧ ds[m - f]? = some d ∧ CellR V bs w (.h p j m) v d ∧ ¬ ∀ (nm : Nm) (bs' : Loc), bs' nm = none → CellR V bs' w nm v d
     have hgq : ∀ j m q, g j m = some q → inr j m ∧ qs[m - f]? = some (some q) := fun j m q hg => by
      simp only [g] at hg
      split at hg
      ·rename_i hin
       refine ⟨hin, ?_⟩
       split at hg
       ·rename_i q' hq'
        split at hg
        ·simp at hg; subst hg; exact hq'
        ·simp at hg
       ·simp at hg
      ·simp at hg
     obtain ⟨bs', k1, k2⟩ := hs.filled (p := p) (k := k) (es' := es.set i ((es.getD i []).take f ++ ds ++ (es.getD i []).drop (f + ds.length))) (.inl (by rw [hL]; simp)) qs g (fun j m => decide (¬ inr j m ∨ kd j m))
      (fun j m q hg => List.mem_of_getElem? (hgq j m q hg).2) (fun j m j' m' q hg hg' => by
       obtain ⟨⟨rfl, a1, a2⟩, a3⟩ := hgq _ _ _ hg
       obtain ⟨⟨rfl, c1, c2⟩, c3⟩ := hgq _ _ _ hg'
       have := ndup_inj hnd a3 c3
       exact ⟨rfl, by omega⟩) hm.q g2.os g2.tape g2.output (by rw [g2.size]; exact Nat.le_refl _) (.inl ⟨by rw [hL]; simp, hb⟩) (fun k hk hn => g2.other k (by rintro rfl; exact hn _ hb))
      (by rw [e2]; exact hr1) g3 e1 (fun j m hj hmm => by
       rcases e3 j m hj hmm with ⟨rfl, h2, h3, h4⟩ | ⟨h2, h3, h4, h5⟩
       ·have hin : inr j m := ⟨rfl, h2, h3⟩
        have hv := List.getElem?_eq_getElem (l := vs) (show m - f < vs.length by omega)
        have ho := List.getElem?_eq_getElem (l := qs) (show m - f < qs.length by rw [hm.l2]; omega)
        have := g4 _ _ hv
        rw [show f + (m - f) = m by omega] at this
        refine ⟨_, this, ?_⟩
        obtain ⟨_, h6⟩ := hm.c _ _ _ _ hv h4 ho
        by_cases hq : ∃ q, qs[m - f]? = some (some q) ∧ CellR V bs w (.v q) vs[m - f] (es.set j ((es.getD j []).take f ++ ds ++ (es.getD j []).drop (f + ds.length)))[j][m]
        ·obtain ⟨q, hq1, hq2⟩ := hq
         refine .inr (.inr ⟨q, ?_, hq2⟩)
         simp only [g, if_pos hin, hq1]
         rw [if_pos ⟨_, _, hv, h4, hq2⟩]
        ·have h6 : (∀ (nm : Nm) (bs' : Loc), bs' nm = none → CellR V bs' w nm vs[m - f] (es.set j ((es.getD j []).take f ++ ds ++ (es.getD j []).drop (f + ds.length)))[j][m]) ∨ (∃ q, qs[m - f]? = some (some q) ∧ CellR V bs w (.v q) vs[m - f] (es.set j ((es.getD j []).take f ++ ds ++ (es.getD j []).drop (f + ds.length)))[j][m]) ∨ (qs[m - f]? = some none ∧ kd j m ∧ CellR V bs w (.h p j m) vs[m - f] (es.set j ((es.getD j []).take f ++ ds ++ (es.getD j []).drop (f + ds.length)))[j][m]) := by
          by_cases hall : ∀ (nm : Nm) (bs' : Loc), bs' nm = none → CellR V bs' w nm vs[m - f] (es.set j ((es.getD j []).take f ++ ds ++ (es.getD j []).drop (f + ds.length)))[j][m]
          ·exact .inl hall
          ·rcases h6 with h6 | h6 | ⟨h6, i0, j0, h7, h8⟩
           ·exact absurd h6 hall
           ·exact .inr (.inl (h6.imp fun q h => ⟨by rw [ho, h.1], h.2⟩))
           ·simp only [Option.some.injEq, Prod.mk.injEq] at h7
            obtain ⟨rfl, rfl⟩ := h7
            rw [show f + (m - f) = m by omega] at h8
            exact .inr (.inr ⟨by rw [ho, h6], ⟨_, _, hv, h4, h8, hall⟩, h8⟩)
         rcases h6 with h6 | ⟨q, h6, h7⟩ | ⟨h6, h7, h8⟩
         ·refine .inr (.inl ⟨?_, decide_eq_false (fun hh => hh.elim (fun h => h hin) fun ⟨v, d, a1, a2, a3, a4⟩ => by
           rw [hv] at a1; rw [h4] at a2
           injection a1 with a1; injection a2 with a2
           subst a1; subst a2
           exact a4 h6), h6⟩)
          simp only [g, if_pos hin]
          split
          ·rename_i q hq1
           rw [if_neg]
           rintro ⟨v, d, a1, a2, a3⟩
           rw [hv] at a1; rw [h4] at a2
           injection a1 with a1; injection a2 with a2
           subst a1; subst a2
           exact hq ⟨q, hq1, a3⟩
          ·rfl
         ·exact absurd ⟨q, h6, h7⟩ hq
         ·refine .inl ⟨?_, decide_eq_true (.inr h7), h8⟩
          simp only [g, if_pos hin, h6]
       ·have hin : ¬ inr j m := h2
        obtain ⟨v, h6, h7⟩ := hr4 j m h3 h4
        refine ⟨v, by rw [g5 j m (by rw [e1] at hmm; exact hmm) (by rw [← hdl]; exact h2)]; exact h6, .inl ⟨by simp only [g, if_neg hin], decide_eq_true (.inl hin), ?_⟩⟩
        rw [h5]; exact h7)
     exact ⟨b, i * k + f, _, w', hK, rfl, g1, k2.sat h0 h1⟩
    ·exact hK.elim
 ·rename_i p a1 b1 k i f
  cases hc with
  | @ep _ _ _ _ b n hb =>
   split at h
   ·rename_i ds k0 es0 hds hL
    split at h
    ·rename_i e he
     split at h
     ·rename_i k' off len es hd
      obtain ⟨⟨rfl, hi, hfl⟩, hK⟩ := h
      have hrd := plainCs_ok hcs hds
      have hdl := hrd.length
      obtain ⟨ha0, he'⟩ := List.getElem?_eq_some_iff.1 he
      subst he'
      obtain ⟨hb0, hd'⟩ := List.getElem?_eq_some_iff.1 hd
      rcases hs.rows p _ hL with ⟨b2, n2, hb2, q1, q2, q3, q4⟩ | ⟨_, k1, hk⟩
      ·obtain ⟨v0, q5, q6⟩ := q4 a1 b1 ha0 hb0
       rw [hd'] at q6
       cases q6 with
       | rd h => cases h
       | ownil => simp at hi
       | ow hb3 ho hl hcap hin =>
        rw [hb] at hb3; simp at hb3; obtain ⟨rfl, rfl⟩ := hb3
        obtain ⟨hr1, hr2, hr3, hr4⟩ := hin
        obtain ⟨w', g1, g2, g3, g4, g5⟩ := wrote_cells (P := P) (f := f) hr1 hr2 hi (by omega) hone
        obtain ⟨e1, e2, e3⟩ := set_cells hr3 hi hfl
        have hbb : w'.heap[b2]? = w.heap[b2]? := g2.other _ (by rintro rfl; have := hs.inj _ _ _ _ _ hb2 hb; simp at this)
        have hc1 : ∀ m, w'.cell? ⟨b2, m, none⟩ = w.cell? ⟨b2, m, none⟩ := fun m => World.cell_of_block (x := ⟨b2, m, none⟩) hbb
        have hc2 : ∀ m, w'.frozen? ⟨b2, m, none⟩ = w.frozen? ⟨b2, m, none⟩ := fun m => World.frozen_of_block (x := ⟨b2, m, none⟩) hbb
        refine ⟨b, i * k + f, _, w', hK, rfl, g1, (hs.wrote hb g2 (r := .own k0 _) ⟨b2, n2, hb2, by simpa using q1, fun j hj => by rw [hc1, hc2]; exact q2 j hj, fun j hj => ?_, fun j m hj hm => ?_⟩).sat h0 h1⟩
        ·rw [List.getElem_set]; split
         ·rename_i e; subst e; simp; exact q3 _ _
         ·exact q3 _ _
        ·simp only [List.length_set] at hj
         have hj0 : j < es0.length := hj
         by_cases hja : j = a1
         ·subst hja
          have hs1 : (es0.set j (es0[j].set b1 (.ow k off len (es.set i ((es.getD i []).take f ++ ds ++ (es.getD i []).drop (f + ds.length))))))[j]'(by simpa using hj) = es0[j].set b1 (.ow k off len (es.set i ((es.getD i []).take f ++ ds ++ (es.getD i []).drop (f + ds.length)))) := by simp
          have hm' : m < es0[j].length := by rw [hs1] at hm; simpa using hm
          obtain ⟨v1, q7, q8⟩ := q4 j m (by assumption) hm'
          refine ⟨v1, by rw [hc1]; exact q7, ?_⟩
          simp only [hs1, List.getElem_set]
          by_cases hmb : b1 = m
          ·subst hmb
           rw [if_pos rfl]
           rw [q5] at q7; injection q7 with q7; subst q7
           refine .ow hb (by rw [e2]; exact ho) hl hcap ⟨by rw [e2]; exact hr1, g3, e1, fun j2 m2 hj2 hm2 => ?_⟩
           rcases e3 j2 m2 hj2 hm2 with ⟨rfl, h2, h3, h4⟩ | ⟨h2, h3, h4, h5⟩
           ·obtain ⟨v, h6, h7⟩ := hrd.get (m2 - f) (by omega)
            have := g4 _ _ h6
            rw [show f + (m2 - f) = m2 by omega] at this
            refine ⟨v, this, ?_⟩
            rw [List.getElem?_eq_getElem (by omega)] at h4
            injection h4 with h4; rw [← h4]; exact h7
           ·obtain ⟨v, h6, h7⟩ := hr4 j2 m2 h3 h4
            refine ⟨v, by rw [g5 j2 m2 (by rw [e1] at hm2; exact hm2) (by rw [hdl]; exact h2)]; exact h6, ?_⟩
            rw [h5]; exact h7
          ·rw [if_neg hmb]
           exact q8.mono (View.le.refl _) rfl fun b3 n3 hb3 => g2.other _ (by rintro rfl; have := hs.inj _ _ _ _ _ hb3 hb; injection this with _ _ this; exact hmb this.symm)
         ·have hs1 : (es0.set a1 (es0[a1].set b1 (.ow k off len (es.set i ((es.getD i []).take f ++ ds ++ (es.getD i []).drop (f + ds.length))))))[j]'(by simpa using hj) = es0[j] := by rw [List.getElem_set, if_neg (Ne.symm hja)]
          have hm' : m < es0[j].length := by rw [hs1] at hm; exact hm
          obtain ⟨v1, q7, q8⟩ := q4 j m hj hm'
          refine ⟨v1, by rw [hc1]; exact q7, ?_⟩
          simp only [hs1]
          exact q8.mono (View.le.refl _) rfl fun b3 n3 hb3 => g2.other _ (by rintro rfl; have := hs.inj _ _ _ _ _ hb3 hb; injection this with _ this _; exact hja this)
      ·simp at hk; obtain ⟨_, rfl⟩ := hk; simp at he
     ·exact h.elim
    ·exact h.elim
   ·exact h.elim
 ·exact h.elim
end
end Go.Proofs.Ytpdjehnlejjfmaa.D
/- 'memD' answers as the model does. -/
namespace Go.Proofs.Ytpdjehnlejjfmaa.D
open Go.RowKit

section
variable {P : Program} (tb : Tab P) {w0 : World} {M : Rows0} {N : Nat} {V V0 : View} {bs : Loc} {S : St} {a : Act} {w : World}

theorem zeros_len {e : TypeId} {i : TyI} (hi : TyFacts P e i) (hz : i.zero ≠ []) {z : Value} (hzc : z.cells.toList = i.zero.map Z.val) : z.cells.size = i.size := by
 rw [← hi.zlen hz]; have := congrArg List.length hzc; simpa using this

theorem rep_cells (z : Array Value) (n : Nat) : ((Array.range (n * z.size)).map (fun j => z[j % z.size]!)) = (List.replicate n z.toList).flatten.toArray := by
 apply Array.ext'
 simp only [Array.toList_map, Array.toList_range]
 induction n with
 | zero => simp
 | succ n ih =>
  rw [List.replicate_succ, List.flatten_cons, ← ih, Nat.succ_mul, Nat.add_comm, List.range_add, List.map_append]
  congr 1
  ·apply List.ext_getElem
   ·simp
   ·intro m h1 h2
    simp at h1
    simp [Nat.mod_eq_of_lt h1, h1]
  ·rw [List.map_map]
   apply List.map_congr_left
   intro m _
   simp

theorem rep_cr (V : View) (bs : Loc) (zs : List Z) : ∀ n, CRs V bs (List.replicate n (zs.map Z.cv)).flatten (List.replicate n (zs.map Z.val)).flatten
 | 0 => by simp; exact .nil
 | n + 1 => by simp only [List.replicate_succ, List.flatten_cons]; exact (zeros_cr V bs zs).append (rep_cr V bs zs n)

theorem zerosD_rd (V : View) (zs : List Z) : RdL V (zs.map Z.val) (zerosD zs) := by
 induction zs with
 | nil => exact .nil
 | cons z zs ih =>
  refine .cons ?_ ih
  cases z <;> first | exact .nil _ _ | exact .sc _

theorem rep_flat (V : View) (zs : List Z) : ∀ n, FlatR V zs.length (List.replicate n (zerosD zs)) (List.replicate n (zs.map Z.val)).flatten
 | 0 => .nil V _
 |n + 1 => by
  have h := zerosD_rd V zs
  have h0 : FlatR V zs.length [zerosD zs] (zs.map Z.val) := by
   have := chunks_flat zs.length 1 (zerosD zs) (zs.map Z.val) h (by simp [zerosD])
   have e : (zerosD zs).take zs.length = zerosD zs := List.take_of_length_le (by simp [zerosD])
   simpa [chunks, e] using this
  have := h0.append (rep_flat V zs n)
  simpa [List.replicate_succ] using this

theorem wrap64_id {x : Int} (h1 : -9223372036854775808 ≤ x) (h2 : x ≤ 9223372036854775807) : IntKind.i64.wrap x = x := by
 have h0 : IntKind.i64.wrap x = (x + 9223372036854775808) % 18446744073709551616 - 9223372036854775808 := by
  simp [IntKind.wrap, IntKind.signed, IntKind.bits]
  split <;> omega
 omega

theorem cell_alloc_fz (w : World) (c : Array Value) (e : TypeId) (fz : Nat × Nat) (j : Nat) : (w.alloc (.cells c e fz)).cell? ⟨w.heap.size, j, none⟩ = c[j]? := by simp [-World.alloc_eq, World.alloc, World.cell?]
theorem frozen_alloc_fz (w : World) (c : Array Value) (e : TypeId) (lo hi j : Nat) : (w.alloc (.cells c e (lo, hi))).frozen? ⟨w.heap.size, j, none⟩ = (decide (lo ≤ j) && decide (j < hi)) := by simp [-World.alloc_eq, World.alloc, World.frozen?]
theorem shape_alloc (w : World) (c : Array Value) (e : TypeId) : (w.alloc (.cells c e)).shape? w.heap.size = some (e, c.size) := by simp [-World.alloc_eq, World.alloc, World.shape?]
theorem freeze_alloc (w : World) (c : Array Value) (e : TypeId) (n : Nat) : (w.alloc (.cells c e)).freeze ⟨w.heap.size, n, none⟩ 1 = w.alloc (.cells c e (n, n + 1)) := by
 simp only [World.freeze, World.alloc]
 simp only [Nat.one_ne_zero, if_false]
 congr 1
 apply Array.ext
 ·simp
 ·intro i h1 h2
  simp only [Array.getElem_modify, Array.getElem_push]
  simp at h1
  by_cases hi : i = w.heap.size
  ·subst hi; simp
  ·have : i < w.heap.size := by omega
   simp [this, Ne.symm hi]

theorem chunks_get (k : Nat) : ∀ (n : Nat) (ds : List DV), ds.length = n * k → (∀ i (h : i < (chunks k n ds).length), (chunks k n ds)[i].length = k) ∧
  ∀ i j (hi : i < (chunks k n ds).length) (hj : j < (chunks k n ds)[i].length), ds[i * k + j]? = some (chunks k n ds)[i][j]
 | 0, ds, _ => ⟨fun i h => by simp [chunks] at h, fun i j h => by simp [chunks] at h⟩
 |n + 1, ds, hl => by
  rw [Nat.add_mul] at hl; simp at hl
  obtain ⟨h1, h2⟩ := chunks_get k n (ds.drop k) (by simp; omega)
  refine ⟨fun i hi => ?_, fun i j hi hj => ?_⟩
  ·cases i with
   | zero => simp [chunks]; omega
   | succ i => simp only [chunks, List.getElem_cons_succ]; exact h1 _ _
  ·cases i with
   | zero =>
    simp only [chunks, List.getElem_cons_zero, List.getElem_take] at hj ⊢
    simp only [Nat.zero_mul, Nat.zero_add]
    exact List.getElem?_eq_getElem _
   | succ i =>
    simp only [chunks, List.getElem_cons_succ] at hj ⊢
    have := h2 i j (by simpa [chunks] using hi) hj
    rw [List.getElem?_drop] at this
    rw [← this]; congr 1; rw [Nat.add_mul]; omega
theorem idx_inj {k i j i' j' : Nat} (h : i * k + j = i' * k + j') (hj : j < k) (hj' : j' < k) : i = i' ∧ j = j' := by
 have h1 : (i * k + j) / k = i := by rw [Nat.mul_comm, Nat.mul_add_div (by omega), Nat.div_eq_of_lt hj]; rfl
 have h2 : (i' * k + j') / k = i' := by rw [Nat.mul_comm, Nat.mul_add_div (by omega), Nat.div_eq_of_lt hj']; rfl
 have e : i = i' := by rw [← h1, ← h2, h]
 subst e; exact ⟨rfl, by omega⟩
open Classical in
/-- A new row, with own slices in it. -/
theorem Sat1.filledNew (hs : Sat1 w0 M N V bs S a w) {nm k n : Nat} {vs : List Value} {ds : List DV} {qs : List (Option Nat)} (hm : Moved V bs w S nm none vs ds qs) (hnm : S.L nm = none) (hnm2 : 1000 ≤ nm) (hnd : ndup qs) (hl : vs.length = n * k) (t : TypeId) :
  ∃ bs', bs' (.v nm) = some (w.heap.size, vs.length) ∧ Sat1 w0 M N V bs' (((S.gone qs).killH nm).new nm (.own k (chunks k n ds))) a (w.alloc (.cells vs.toArray t)) := by
 have hdl := hm.l1
 have hcl := chunks_length k n ds
 obtain ⟨c1, c2⟩ := chunks_get k n ds (by rw [hdl, hl])
 let g : Nat → Nat → Option Nat := fun i j => if i < n ∧ j < k then (match qs[i * k + j]? with | some (some q) => (if ∃ v d, vs[i * k + j]? = some v ∧ ds[i * k + j]? = some d ∧ CellR V bs w (.v q) v d then some q else none) | _ => none) else none
 have hgq : ∀ i j q, g i j = some q → (i < n ∧ j < k) ∧ qs[i * k + j]? = some (some q) := fun i j q hg => by
  simp only [g] at hg
  split at hg
  ·rename_i hin
   refine ⟨hin, ?_⟩
   split at hg
   ·rename_i q' hq'
    split at hg
    ·simp at hg; subst hg; exact hq'
    ·simp at hg
   ·simp at hg
  ·simp at hg
 have hcell : ∀ j, (w.alloc (.cells vs.toArray t)).cell? ⟨w.heap.size, j, none⟩ = vs[j]? := fun j => by
  rw [World.cell?_alloc_new]; simp
 refine hs.filled (w' := w.alloc (.cells vs.toArray t)) (b' := w.heap.size) (n' := vs.length) (.inr ⟨hnm, hnm2⟩) qs g (fun _ _ => false) (fun i j q hg => List.mem_of_getElem? (hgq i j q hg).2) (fun i j i' j' q hg hg' => ?_) hm.q rfl rfl rfl (by simp) (.inr ⟨hnm, rfl, by simp⟩) (fun k hk _ => Below.heap_alloc w _ k hk)
  (by rw [hcl, hl]; exact Nat.le_refl _) (fun j hj => ⟨by rw [hcell, List.getElem?_eq_getElem hj]; rfl, World.frozen?_alloc_new _ _ _ _⟩) c1 (fun i j hi hj => ?_)
 ·obtain ⟨⟨_, a1⟩, a2⟩ := hgq _ _ _ hg
  obtain ⟨⟨_, b1⟩, b2⟩ := hgq _ _ _ hg'
  exact idx_inj (ndup_inj hnd a2 b2) a1 b1
 ·have hi' : i < n := by omega
  have hj' : j < k := by rw [c1] at hj; exact hj
  have hlt := idx_lt hi' hj'
  have hv := List.getElem?_eq_getElem (l := vs) (show i * k + j < vs.length by omega)
  have ho := List.getElem?_eq_getElem (l := qs) (show i * k + j < qs.length by rw [hm.l2]; omega)
  have h4 := c2 i j hi hj
  refine ⟨_, by rw [hcell]; exact hv, ?_⟩
  obtain ⟨_, h6⟩ := hm.c _ _ _ _ hv h4 ho
  by_cases hq : ∃ q, qs[i * k + j]? = some (some q) ∧ CellR V bs w (.v q) vs[i * k + j] (chunks k n ds)[i][j]
  ·obtain ⟨q, hq1, hq2⟩ := hq
   refine .inr (.inr ⟨q, ?_, hq2⟩)
   simp only [g, if_pos (And.intro hi' hj'), hq1]
   rw [if_pos ⟨_, _, hv, h4, hq2⟩]
  ·rcases h6 with h6 | ⟨q, h6, h7⟩ | ⟨_, _, _, h7, _⟩
   ·refine .inr (.inl ⟨?_, rfl, h6⟩)
    simp only [g, if_pos (And.intro hi' hj')]
    split
    ·rename_i q hq1
     rw [if_neg]
     rintro ⟨v, d, a1, a2, a3⟩
     rw [hv] at a1; rw [h4] at a2
     injection a1 with a1; injection a2 with a2
     subst a1; subst a2
     exact hq ⟨q, hq1, a3⟩
    ·rfl
   ·exact absurd ⟨q, by rw [ho, h6], h7⟩ hq
   ·simp at h7
theorem zW_len : ∀ (ws : List Nat) (zs : List Z), (zW ws zs).length = zs.length
 | _, [] => rfl
 | ws, z :: zs => by cases z <;> simp [zW, zW_len]
theorem zW_cell {nm : Nat} (hn : ∀ i j, bs (.h nm i j) = none) {w : World} : ∀ (ws : List Nat) (zs : List Z) (j : Nat) (hj : j < (zW ws zs).length) (hz : j < zs.length) (i m : Nat), CellR V bs w (.h nm i m) zs[j].val (zW ws zs)[j]
 | _, [], j, hj, _, _, _ => by simp [zW] at hj
 |ws, z :: zs, 0, hj, _, i, m => by
  cases z <;> simp only [zW, List.getElem_cons_zero, Z.val] <;> first
   | exact .rd (.sc _)
   | exact .ownil _ _ (hn _ _)
 |ws, z :: zs, j + 1, hj, hz, i, m => by
  have hj' : j < (zW ws.tail zs).length := by rw [zW_len]; simpa using hz
  have ih := zW_cell (w := w) hn ws.tail zs j hj' (by simpa using hz) i m
  cases z <;> simp only [zW, List.getElem_cons_succ] <;> exact ih

theorem wp_does {o : Oper} (hs : Sat1 w0 M N V bs S a w) (h0 : V0.le V) (h1 : ∀ x v, V x = some v → V0 x = some v ∨ w0.heap.size ≤ x.block) (hd : ∀ t, o.dst = some t → t < N) {K : St → Prop} {Q : Exit → Act → World → Prop}
  (h : Does P V bs a w o fun v => K (S.put o.dst v)) : o.wp P a w (fun a' w' => ∃ S', K S' ∧ Sat w0 M N V0 S' a' w') Q := by
 obtain ⟨sv, v, hK, hv, hr⟩ := h
 exact wp_value hr ⟨_, hK, (hs.put hd hv).sat h0 h1⟩

theorem memD_ok (hs : Sat1 w0 M N V bs S a w) (h0 : V0.le V) (h1 : ∀ x v, V x = some v → V0 x = some v ∨ w0.heap.size ≤ x.block) {o : Oper} (hd : ∀ t, o.dst = some t → t < N) {nm : Nat} {K : St → Prop}
  {Q : Exit → Act → World → Prop} (h : memD tb.tb nm S o.op o.dst K) : o.wp P a w (fun a' w' => ∃ S', K S' ∧ Sat w0 M N V0 S' a' w') Q := by
 have hev : ∀ x, VR V bs (S.ev x) (a.eval x) := ev_ok hs.tmps
 unfold memD at h
 split at h
 ·-- box
  rename_i t x ho
  split at h
  ·rename_i cs hcs
   obtain ⟨⟨hnm, hnm2⟩, hK⟩ := h
   have hc := SV.cells_ok (hev x) hcs
   have hrun : (execOp a.eval o).run P w = .ok (.value (.pointer (some ⟨w.heap.size, 0, none⟩))) (w.alloc (.cells (a.eval x).cells t)) := by simp [execOp, ho, Instr.box, newVar, newRow]
   rcases hK with hK | ⟨ws, hK⟩
   ·obtain ⟨h2, h3⟩ := hs.newBox hnm hnm2 (vs := (a.eval x).cells) (t := t) hc
    exact wp_value hrun ⟨_, hK, (h2.put hd (.one (.ptr h3))).sat h0 h1⟩
   ·obtain ⟨ds, qs, ⟨hnd, hK⟩, hm⟩ := moveD_ok hs hc hK
    have hcl := hc.length
    obtain ⟨bs', k1, k2⟩ := hs.filledNew (k := cs.length) (n := 1) hm hnm hnm2 hnd (by rw [hcl]; simp) t
    have hch : chunks cs.length 1 ds = [ds] := by simp [chunks, List.take_of_length_le (show ds.length ≤ cs.length by rw [hm.l1, hcl]; exact Nat.le_refl _)]
    rw [hch] at k2
    have he : (a.eval x).cells.toList.toArray = (a.eval x).cells := by simp
    rw [he] at k2
    refine wp_value hrun ⟨_, hK, (k2.put hd (.one ?_)).sat h0 h1⟩
    have := CR.ep (V := V) (bs := bs') (p := .v nm) (k := cs.length) (i := 0) (f := 0) k1
    simpa using this
  ·exact h.elim
 ·-- alloc
  rename_i t ho
  split at h
  ·rename_i i hi
   obtain ⟨⟨hz, hnm, hnm2⟩, hK⟩ := h
   obtain ⟨z, hzr, hzc, _⟩ := (tb.ok _ _ hi).run_zero hz w
   have hrun : (execOp a.eval o).run P w = .ok (.value (.pointer (some ⟨w.heap.size, 0, none⟩))) (w.alloc (.cells z.cells t)) := by simp [execOp, ho, Instr.alloc, hzr, newVar, newRow]
   rcases hK with hK | ⟨ws, hK⟩
   ·obtain ⟨h2, h3⟩ := hs.newBox hnm hnm2 (vs := z.cells) (t := t) (by rw [hzc]; exact zeros_cr V bs i.zero)
    exact wp_value hrun ⟨_, hK, (h2.put hd (.one (.ptr h3))).sat h0 h1⟩
   ·have hzl := (tb.ok _ _ hi).zlen hz
    have hsz : z.cells.size = i.size := by rw [← hzl]; have := congrArg List.length hzc; simpa using this
    have hcell : ∀ j, (w.alloc (.cells z.cells t)).cell? ⟨w.heap.size, j, none⟩ = (i.zero.map Z.val)[j]? := fun j => by
     rw [World.cell?_alloc_new, ← hzc]; simp
    have hal := hs.alloc (r := .own i.size [zW ws i.zero]) (o := .cells z.cells t) (n := i.size) hnm hnm2 ⟨by simp, fun j hj => ⟨by rw [hcell]; simp [hzl, hj], World.frozen?_alloc_new _ _ _ _⟩, fun i2 h2 => by simp at h2; subst h2; simp [zW_len, hzl], fun i2 j h2 hj => by
     simp at h2; subst h2
     simp only [List.getElem_cons_zero] at hj ⊢
     have hj' : j < i.zero.length := by rw [zW_len] at hj; exact hj
     exact ⟨i.zero[j].val, by rw [hcell]; simp [hj'], zW_cell (hs.dom nm hnm).2 ws i.zero j hj hj' 0 j⟩⟩
    refine wp_value hrun ⟨_, hK, (hal.put hd (.one ?_)).sat h0 h1⟩
    have := CR.ep (V := V) (bs := upd bs (.v nm) (some (w.heap.size, i.size))) (p := .v nm) (k := i.size) (i := 0) (f := 0) (upd_same _ _ _)
    simpa using this
  ·exact h.elim
 ·-- store
  rename_i t x v ho
  split at h
  ·rename_i i c cs hi hx hcs
   obtain ⟨⟨hlen, hall⟩, h⟩ := h
   have hcr := SV.cells_ok (hev v) hcs
   have e1 := hev x; rw [hx] at e1; have e1 := vr_one e1
   obtain ⟨b, oo, S', w', hK, hv, hr, hsat⟩ := storeD_ok (P := P) hs h0 h1 e1 hcr (all_one hcr hall) h
   have hsz : (a.eval v).cells.size = i.size := by rw [← hlen, hcr.length]; simp
   obtain ⟨V', bs', g0, g1, g2⟩ := hsat
   refine wp_skip' (w' := w') ?_ ⟨_, hK, (g2.put hd (.one (.dead undef))).sat g0 g1⟩
   simp [execOp, ho, Instr.storeAt, hv, Instr.sureAddr, storeVar, (tb.ok _ _ hi).run_sizeOf, hsz, hr]
  ·exact h.elim
 ·-- buildSlice
  rename_i t len parts ho
  split at h
  ·rename_i e _ _ _ _ htb
   split at h
   ·rename_i i hi
    obtain ⟨⟨hz, hnm, hnm2, hsz⟩, h⟩ := h
    split at h
    ·rename_i cs hf
     have hI := tb.ok _ _ hi
     obtain ⟨z, hzr, hzc, _⟩ := hI.run_zero hz w
     have hzl := zeros_len hI hz hzc
     have hparts : ∀ (i : Nat) j sv u, (parts.toList.map fun p => (p.1, S.ev p.2))[i]? = some (j, sv) → ((parts.map fun p => (p.1, a.eval p.2)).toList)[i]? = some u → u.1 = j ∧ VR V bs sv u.2 := by
      intro i j sv u h1 h2
      simp only [Array.toList_map, List.getElem?_map, Option.map_eq_some_iff] at h1 h2
      obtain ⟨p, hp, h1⟩ := h1
      obtain ⟨q, hq, rfl⟩ := h2
      rw [hp] at hq; simp at hq; subst hq
      simp at h1; obtain ⟨rfl, rfl⟩ := h1
      exact ⟨rfl, hev _⟩
     obtain ⟨us', h3, h4⟩ := fillC_ok _ _ _ (fun j => some (j * i.size, i.size)) _ _ _ (fun _ _ h => h) (rep_cr V bs i.zero len) (by simp) hparts hf
     have hul : us'.length = len * i.size := by
      have : ∀ (ps : List (Nat × Value)) (c c' : Array Value), Instr.fill (fun j => some (j * i.size, i.size)) c ps = some c' → c'.size = c.size := by
       intro ps
       induction ps with
       | nil => intro c c' h; simp [Instr.fill] at h; rw [h]
       | cons p ps ih =>
        intro c c' h
        obtain ⟨j, u⟩ := p
        simp only [Instr.fill] at h
        split at h
        ·simp at h
        ·rw [ih _ _ h, ← Array.foldl_toList]
         have : ∀ (l : List (Value × Nat)) (c : Array Value), (l.foldl (fun cs x => cs.setIfInBounds (j * i.size + x.2) x.1) c).size = c.size := by
          intro l
          induction l with
          | nil => intro c; rfl
          | cons y l ih => intro c; simp [ih]
         exact this _ _
      have := this _ _ _ h3
      simp only [List.size_toArray] at this
      rw [this]
      simp [hI.zlen hz]
     have hrun : (execOp a.eval o).run P w = .ok (.value (.slice (some ⟨w.heap.size, 0, none⟩) len len)) (w.alloc (.cells us'.toArray e)) := by
      have hu1 := fun w => Go.run_underlying ((tb.ok _ _ htb).slice rfl) w
      have hz1 := fun w => hI.run_sizeOf w
      have hsz' : ¬ (len * i.size > 2 ^ 24) := by omega
      have hrep := rep_cells z.cells len
      rw [hzl, hzc] at hrep
      have h3' : Instr.fill (fun j => some (j * i.size, i.size)) ((Array.range (len * i.size)).map (fun j => z.cells[j % i.size]!)) (parts.map fun p => (p.1, a.eval p.2)).toList = some us'.toArray := by
       rw [hrep]; exact h3
      have hr0 : ∀ f : Nat → Value, Array.map f (Array.range 0) = #[] := fun f => by apply Array.ext'; simp
      simp only [Array.toList_map] at h3'
      by_cases hzero : len * i.size = 0
      ·rw [hzero, hr0] at h3'
       simp only [execOp, ho, Instr.buildSlice, hu1, hz1, hzero, newRow, Sem.run_bind, Result.andThen_ok, if_true, Sem.run_pure, hr0, Array.toList_map, h3']
       simp
      ·simp only [gt_iff_lt] at hsz'
       simp [execOp, ho, Instr.buildSlice, hu1, hz1, hsz', hzero, hzr, hzl, newRow, h3']
     rcases h with h | ⟨ws, h⟩
     ·obtain ⟨S', V', bs', ds, hK, hV, hpost, hs', hrd, hnone, hbs⟩ := deepCells_ok _ cs us' _ rfl hs h4 h
      have hflat := chunks_flat i.size len ds us' hrd (by rw [← hrd.length, hul])
      have hnew := hs'.alloc (hnone _ hnm) hnm2 (rowSat_new (t := e) (rest := []) hflat)
      simp only [List.append_nil] at hnew
      refine wp_value hrun ⟨_, hK, (hnew.put hd (.one ?_)).sat (h0.trans hV) (fun x v hx => (hpost x v hx).elim (h1 x v) .inr)⟩
      have := CR.os (V := V') (bs := upd bs' (.v nm) (some (w.heap.size, us'.length))) (p := .v nm) (k := i.size) (off := 0) (len := len) (cap := len) (upd_same _ _ _) (Nat.le_refl _) (by rw [hul]; simp)
      simpa using this
     ·obtain ⟨ds, qs, ⟨hnd, hK⟩, hm⟩ := moveD_ok hs h4 h
      obtain ⟨bs', k1, k2⟩ := hs.filledNew (k := i.size) (n := len) hm hnm hnm2 hnd hul e
      refine wp_value hrun ⟨_, hK, (k2.put hd (.one ?_)).sat h0 h1⟩
      have := CR.os (V := V) (bs := bs') (p := .v nm) (k := i.size) (off := 0) (len := len) (cap := len) k1 (Nat.le_refl _) (by rw [hul]; simp)
      simpa using this
    ·exact h.elim
   ·exact h.elim
  ·exact h.elim
 ·-- makeSlice
  rename_i t l c ho
  split at h
  ·rename_i e _ _ _ _ htb
   split at h
   ·rename_i i hi
    obtain ⟨k1, l', hl, h⟩ := mapInt_ok hs h
    obtain ⟨k2, c', hc, ⟨hz, hnm, hnm2, hl0, hlc, hc40, hcb⟩, hK⟩ := mapInt_ok hs h
    have hI := tb.ok _ _ hi
    obtain ⟨z, hzr, hzc, _⟩ := hI.run_zero hz w
    have hzl := zeros_len hI hz hzc
    have hw1 : IntKind.i64.wrap l' = l' := wrap64_id (by omega) (by omega)
    have hw2 : IntKind.i64.wrap c' = c' := wrap64_id (by omega) (by omega)
    obtain ⟨ln, rfl⟩ : ∃ ln : Nat, l' = ln := ⟨l'.toNat, by omega⟩
    obtain ⟨cn, rfl⟩ : ∃ cn : Nat, c' = cn := ⟨c'.toNat, by omega⟩
    have hflat := rep_flat V i.zero ln
    rw [hI.zlen hz] at hflat
    have hsplit : (List.replicate cn (i.zero.map Z.val)).flatten = (List.replicate ln (i.zero.map Z.val)).flatten ++ (List.replicate (cn - ln) (i.zero.map Z.val)).flatten := by
     rw [← List.flatten_append, List.replicate_append_replicate]; congr 2; omega
    have hnew := hs.alloc hnm hnm2 (rowSat_new (t := e) (rest := (List.replicate (cn - ln) (i.zero.map Z.val)).flatten) hflat)
    rw [← hsplit] at hnew
    simp only [Int.toNat_natCast] at hK
    refine wp_value (v := .slice (some ⟨w.heap.size, 0, none⟩) ln cn) (w' := w.alloc (.cells ((List.replicate cn (i.zero.map Z.val)).flatten).toArray e)) ?_ ⟨_, hK, ?_⟩
    ·have hu1 := fun w => Go.run_underlying ((tb.ok _ _ htb).slice rfl) w
     have hz1 := fun w => hI.run_sizeOf w
     obtain ⟨info, hinf, _, hs2, _⟩ := hI.info
     have hrep := rep_cells z.cells cn
     rw [hzl, hzc] at hrep
     have hcb' : (i.bytes : Int) * (cn : Int) ≤ 281474976710656 := by simpa using hcb
     have ht5 : ¬ ((cn : Int) < 0 ∨ 281474976710656 < (i.bytes : Int) * (cn : Int)) := by
      rintro (h | h)
      ·omega
      ·exact absurd hcb' (Int.not_le.2 h)
     have ht6 : ¬ ((ln : Int) < 0 ∨ cn < ln) := by omega
     have hr0 : ∀ f : Nat → Value, Array.map f (Array.range 0) = #[] := fun f => by apply Array.ext'; simp
     by_cases hzero : cn * i.size = 0
     ·rw [hzero, hr0] at hrep
      simp [execOp, ho, Instr.makeSlice, hu1, hz1, hl, hc, asInt, asIntOf, hw1, hw2, typeInfo, hinf, hs2, ht5, ht6, hzero, newRow, ← hrep, hr0]
     ·simp [execOp, ho, Instr.makeSlice, hu1, hz1, hl, hc, asInt, asIntOf, hw1, hw2, typeInfo, hinf, hs2, ht5, ht6, hzero, newRow, hzr, hzl, hrep]
    ·refine (hnew.put hd (.one ?_)).sat h0 h1
     have hrl : ((List.replicate cn (i.zero.map Z.val)).flatten).length = cn * i.size := by simp [hI.zlen hz]
     have := CR.os (V := V) (bs := upd bs (.v nm) (some (w.heap.size, ((List.replicate cn (i.zero.map Z.val)).flatten).length))) (p := .v nm) (k := i.size) (off := 0) (len := ln) (cap := cn) (upd_same _ _ _) (by omega) (by rw [hrl]; simp)
     simpa using this
   ·exact h.elim
  ·exact h.elim
 ·-- call
  rename_i c ho
  split at h
  ·rename_i s x t t' h2 h3 h4
   have ho' : o.op = .call { callee := .builtin .append, args := #[s, x], argTypes := #[t, t'] } := by
    obtain ⟨c1, c2, c3⟩ := c
    simp only at h2 h3 h4
    have h3 : c2 = #[s, x] := by apply Array.ext'; simpa using h3
    have h4 : c3 = #[t, t'] := by apply Array.ext'; simpa using h4
    subst h2; subst h3; subst h4; exact ho
   exact appD_ok tb hs h0 h1 hd ho' h
  ·obtain ⟨dst, op, type, pos, after, guard⟩ := o
   simp only at ho h hd
   subst ho
   exact wp_does hs h0 h1 hd (callValD_ok tb hs h)
 ·-- convert
  rename_i src dstT x ho
  split at h
  ·rename_i _ _ _ _ e _ _ _ _ s h2 h3 he
   split at h
   ·rename_i _ _ _ _ h4
    obtain ⟨⟨hnm, hnm2⟩, hK⟩ := h
    have e1 := hev x; rw [he] at e1; have e1 := vr_sc e1
    have hu1 := fun w => Go.run_underlying ((tb.ok _ _ h2).string rfl) w
    have hu2 := fun w => Go.run_underlying ((tb.ok _ _ h3).slice rfl) w
    have hu3 := fun w => Go.run_underlying ((tb.ok _ _ h4).int rfl) w
    have hq : (Question.appendCap s.size 0 e).forced = false := rfl
    let c := (Question.appendCap s.size 0 e).cut (w.tape w.drawn (.appendCap s.size 0 e))
    have hcge : s.size ≤ c := by simp only [c, Question.cut]; omega
    let us : List Value := s.data.toList.map fun b => .int .u8 b.toNat
    let rest : List Value := List.replicate (c - s.size) (.int .u8 0)
    have hsd : Sat1 w0 M N V bs S a w.drew := hs.drew _
    have hul : us.length = s.size := by simp [us]
    have hflat : FlatR V 1 (s.data.toList.map fun b => [.sc (.int .u8 b.toNat)]) us := by
     refine ⟨by simp [us], ?_, fun i j hi hj => ?_⟩
     ·intro e he; simp only [List.mem_map] at he; obtain ⟨b, _, rfl⟩ := he; rfl
     ·simp at hj; subst hj
      simp at hi
      refine ⟨.int .u8 s.data[i].toNat, by simp [us, hi], ?_⟩
      simp only [List.getElem_map, List.getElem_cons_zero]
      exact .sc _
    have hrow := rowSat_new (V := V) (bs := bs) (w := w.drew) (p := nm) (t := e) (rest := rest) hflat
    have hn : (us ++ rest).length = c := by simp [hul, rest]; omega
    have hsize : (us ++ rest).toArray.size = c := by rw [List.size_toArray]; exact hn
    have hrow' : RowSat V bs (w.drew.alloc (.cells (us ++ rest).toArray e (c, c + 1))) nm w.drew.heap.size (us ++ rest).length (.own 1 (s.data.toList.map fun b => [.sc (.int .u8 b.toNat)])) := by
     obtain ⟨r1, r2, r3, r4⟩ := hrow
     have hc : ∀ j, (w.drew.alloc (.cells (us ++ rest).toArray e (c, c + 1))).cell? ⟨w.drew.heap.size, j, none⟩ = (w.drew.alloc (.cells (us ++ rest).toArray e)).cell? ⟨w.drew.heap.size, j, none⟩ := fun j => by
      rw [cell_alloc_fz, World.cell?_alloc_new]
     refine ⟨r1, fun j hj => ⟨by rw [hc]; exact (r2 j hj).1, ?_⟩, r3, fun i j hi hj => by obtain ⟨v, h5, h6⟩ := hflat.2.2 i j hi hj; obtain ⟨v2, h7, h8⟩ := r4 i j hi hj; exact ⟨v2, by rw [hc]; exact h7, h8.mono (View.le.refl V) rfl (fun b n hb => by rw [(hs.dom nm hnm).2] at hb; simp at hb)⟩⟩
     rw [hn] at hj
     rw [frozen_alloc_fz]; simp; omega
    have hnew := hsd.alloc hnm hnm2 hrow'
    refine wp_value (v := .slice (some ⟨w.heap.size, 0, none⟩) s.size c) (w' := w.drew.alloc (.cells (us ++ rest).toArray e (c, c + 1))) ?_ ⟨_, hK, ?_⟩
    ·have hobj : (s.data.map fun b => Value.int .u8 b.toNat) ++ Array.replicate (c - s.size) (.int .u8 0) = (us ++ rest).toArray := by apply Array.ext'; simp [us, rest]
     have hfr := freeze_alloc w.drew (us ++ rest).toArray e c
     have hshape := shape_alloc w.drew (us ++ rest).toArray e
     rw [hsize] at hshape
     have hwd : w.drew.heap.size = w.heap.size := rfl
     rw [hwd] at hfr hshape
     have hobj' : (s.data.map fun b => Value.int .u8 b.toNat) ++ Array.replicate ((Question.appendCap s.size 0 e).cut (w.tape w.drawn (.appendCap s.size 0 e)) - s.size) (.int .u8 0) = (us ++ rest).toArray := hobj
     simp [-List.append_toArray, execOp, ho, e1, convert, hu1, hu2, hu3, Conv.stringToBytes, hq, newRow, markStringish, hobj', hshape, hfr, c]
    ·refine (hnew.put hd (.one ?_)).sat h0 h1
     have := CR.os (V := V) (bs := upd bs (.v nm) (some (w.drew.heap.size, (us ++ rest).length))) (p := .v nm) (k := 1) (off := 0) (len := s.size) (cap := c) (upd_same _ _ _) hcge (by rw [hn]; simp)
     simpa using this
   ·exact h.elim
  ·exact h.elim
  ·rename_i e _ _ _ _ _ _ _ v hns h2 h3 he
   split at h
   ·rename_i _ _ _ _ h4
    obtain ⟨es, us, ⟨bl, hes, hK⟩, hf, hl, hsrc⟩ := srcD_ok hs (hev x) h
    have hu1 := (tb.ok _ _ h2).slice rfl
    have hu2 := (tb.ok _ _ h3).string rfl
    have hu3 := (tb.ok _ _ h4).int rfl
    have hus : us = bl.map fun b => Value.int .u8 b.toNat := by
     apply List.ext_getElem?
     intro i
     by_cases hi : i < bl.length
     ·subst hes
      obtain ⟨u, h5, h6⟩ := hf.2.2 i 0 (by simpa using hi) (by simp)
      rw [Nat.mul_one, Nat.add_zero] at h5
      rw [h5]
      simp only [List.getElem_map, List.getElem_cons_zero] at h6
      cases h6
      simp [hi]
     ·rw [List.getElem?_eq_none (by rw [hf.1, hes]; simp; omega), List.getElem?_eq_none (by simp; omega)]
    have hfold : ∀ (l : List UInt8) (acc : ByteArray), (l.map fun b => (b.toNat : Int)).foldl (fun r n => r.push (UInt8.ofNat n.toNat)) acc = ⟨acc.data ++ l.toArray⟩ := by
     intro l
     induction l with
     | nil => intro acc; simp
     | cons b l ih => intro acc; rw [List.map_cons, List.foldl_cons, ih]; simp [ByteArray.push]
    rcases hsrc with ⟨ad, cap, hv⟩ | ⟨s, hv⟩
    ·refine wp_value (v := .string ⟨bl.toArray⟩) (w' := w) ?_ ⟨_, hK, (hs.put hd (.one (.dv (.sc _)))).sat h0 h1⟩
     have hrun : (convert src dstT (a.eval x)).run P w = .ok (.string ⟨bl.toArray⟩) w := by
      rw [hv, run_convert_bytes_string w src dstT _ ad es.length cap hu1 hu3 hu2]
      cases ad with
      | none =>
       have h7 := (hl w fun _ => rfl).2 es.length (Nat.le_refl _)
       rw [hv] at h7
       have h8 : us.take (es.length * 1) = us := by rw [← hf.1]; exact List.take_length
       rw [h8] at h7
       have h9 : us = [] := by
        simp only [Builtin.firstCells, Sem.run_pure] at h7
        injection h7 with h7
        simpa using h7.symm
       have h10 : bl = [] := by
        have := hf.1; rw [h9, hes] at this; simp at this
        exact List.length_eq_zero_iff.1 this.symm
       subst h10
       simp [Conv.bytesToString]
       rfl
      | some ad =>
       have h7 := (hl w fun _ => rfl).2 es.length (Nat.le_refl _)
       rw [hv] at h7
       have h8 : us.take (es.length * 1) = us := by rw [← hf.1]; exact List.take_length
       rw [h8] at h7
       have h9 : (loadCells ad es.length).run P w = .ok ((bl.map fun b => (b.toNat : Int)).map (Value.int .u8)).toArray w := by
        simp only [Builtin.firstCells, Nat.mul_one] at h7
        rw [h7, hus]; simp
       rw [run_bytesToString w ad es.length cap _ h9, hfold]
       simp
     simp [execOp, ho, hrun]
    ·exfalso
     have h5 := hev x; rw [hv] at h5
     generalize hsv : S.ev x = sv at h5 h
     cases h5 with
     |one h5 => cases h5 with
      |dv h5 => cases h5 with
       | sc => exact he _ hsv
      | dead => simp [srcD] at h
   ·exact h.elim
  ·exact wp_does hs h0 h1 hd (valD_ok tb hs h)
 ·exact wp_does hs h0 h1 hd (valD_ok tb hs h)
end
end Go.Proofs.Ytpdjehnlejjfmaa.D
/- Calls. -/
namespace Go.Proofs.Ytpdjehnlejjfmaa.D
open Go.RowKit

abbrev SatL (w0 : World) (M : Rows0) (V : View) (bs : Loc) (L : Nat → Option Row) (w : World) (mv : List Nat := []) : Prop := Sat1 w0 M 0 V bs ⟨fun _ => .one .dead, L, mv⟩ ⟨#[], []⟩ w
def Lof (rows : List Row) : Nat → Option Row := fun p => rows[p]?

structure Args (V : View) (bs : Loc) (args : List SV) (vs : List Value) : Prop where
 len : args.length = vs.length
 get : ∀ (i : Nat) sv v, args[i]? = some sv → vs[i]? = some v → VR V bs sv v

def Enters (P : Program) (f : FuncId) : Prop := ∃ fn, P.funcs[f]? = some fn ∧ (fn.name == "runtime.NumGoroutine") = false ∧ fn.body.isNone = false
def Clean (w : World) (M : Rows0) (V' : View) (bs' : Loc) (Lo : List Row) (w' : World) (mv : List Nat) (res : SV) (v : Value) : Prop :=
 ∃ Vc : View, Vc.le V' ∧ (∀ x u, Vc x = some u → w.heap.size ≤ x.block) ∧ SatL w M Vc bs' (Lof Lo) w' mv ∧ VR Vc bs' res v
def CallM (P : Program) (f : FuncId) (args : List SV) (Li : List Row) (mv : List Nat) (cl : Bool) (Post : SV → List Row → Prop) : Prop :=
 Enters P f ∧ ∀ (w : World) (M : Rows0) (V : View) (bs : Loc) (vs : List Value), M.n = Li.length → SatL w M V bs (Lof Li) w → Args V bs args vs →
  Calls P f vs.toArray w fun e w' => ∃ v V' bs' res Lo, e = .returned v ∧ Post res Lo ∧ Li.length ≤ Lo.length ∧ V.le V' ∧ (∀ x u, V' x = some u → V x = some u ∨ w.heap.size ≤ x.block) ∧ SatL w M V' bs' (Lof Lo) w' mv ∧ VR V' bs' res v ∧
   (cl = true → Clean w M V' bs' Lo w' mv res v)
abbrev CallR (P : Program) (f : FuncId) (args : List SV) (Li : List Row) (cl : Bool) (Post : SV → List Row → Prop) : Prop := CallM P f args Li [] cl Post
def CallD (P : Program) (f : FuncId) (args : List SV) (Li : List Row) (res : SV) (Lo : List Row) : Prop := CallR P f args Li true fun r l => r = res ∧ l = Lo
theorem CallM.mono {P : Program} {f : FuncId} {args : List SV} {Li : List Row} {mv : List Nat} {cl : Bool} {Post Post' : SV → List Row → Prop} (h : CallM P f args Li mv cl Post) (hp : ∀ r l, Post r l → Post' r l) : CallM P f args Li mv cl Post' :=
 ⟨h.1, fun w M V bs vs h1 h2 h3 => (h.2 w M V bs vs h1 h2 h3).mono fun _ _ ⟨v, V', bs', res, Lo, g1, g2, g⟩ => ⟨v, V', bs', res, Lo, g1, hp _ _ g2, g⟩⟩

section
variable {P : Program} {w0 : World} {M : Rows0} {N : Nat} {V V0 : View} {bs : Loc} {S : St} {a : Act} {w : World}

theorem Sat1.ofL {L : Nat → Option Row} {mv : List Nat} {T : Nat → SV} (h : SatL w0 M V bs L w mv) (ht : ∀ t, VR V bs (T t) (a.tmps.getD t undef)) (hd : a.defers = []) (hn : a.tmps.size = N) : Sat1 w0 M N V bs ⟨T, L, mv⟩ a w :=
 ⟨h.keep, h.view, h.apart, h.inj, h.fresh, h.par, h.ml, h.dom, h.rows, ht, hd, hn⟩
end

def idxOf (p : Nm) : List Nm → Option Nat
 | [] => none
 | q :: ps => if p = q then some 0 else (idxOf p ps).map (· + 1)
theorem idxOf_get {p : Nm} : ∀ {ps : List Nm} {i : Nat}, idxOf p ps = some i → ps[i]? = some p
 |q :: ps, i, h => by
  simp only [idxOf] at h
  split at h
  ·rename_i e; simp at h; subst h; subst e; rfl
  ·simp only [Option.map_eq_some_iff] at h
   obtain ⟨j, hj, rfl⟩ := h
   simpa using idxOf_get hj
theorem idxOf_none {p : Nm} : ∀ {ps : List Nm}, idxOf p ps = none → p ∉ ps
 | [], _ => by simp
 |q :: ps, h => by
  simp only [idxOf] at h
  split at h
  ·simp at h
  ·rename_i e
   simp only [Option.map_eq_none_iff] at h
   simp [e, idxOf_none h]
theorem nodup_inj {α : Type} : ∀ {ps : List α}, ps.Nodup → ∀ {i j : Nat} {p : α}, ps[i]? = some p → ps[j]? = some p → i = j
 | [], _, i, j, p, h, _ => by simp at h
 |q :: ps, hn, i, j, p, h1, h2 => by
  rw [List.nodup_cons] at hn
  cases i with
  | zero =>
   cases j with
   | zero => rfl
   | succ j => simp at h1 h2; subst h1; exact absurd (List.mem_of_getElem? h2) hn.1
  | succ i =>
   cases j with
   | zero => simp at h1 h2; subst h2; exact absurd (List.mem_of_getElem? h1) hn.1
   | succ j => exact congrArg (· + 1) (nodup_inj hn.2 (by simpa using h1) (by simpa using h2))
theorem idxOf_at {ps : List Nm} (hnd : ps.Nodup) {i : Nat} {p : Nm} (hi : ps[i]? = some p) : idxOf p ps = some i := by
 cases h : idxOf p ps with
 | none => exact absurd (List.mem_of_getElem? hi) (idxOf_none h)
 | some j => rw [nodup_inj hnd (idxOf_get h) hi]

def mapN (ps : List Nm) (nm : Nm) : Option Nm :=
 match idxOf nm ps with
 | some i => some (.v i)
 | none => (match nm with | .h p a b => (match idxOf (.v p) ps with | some i => some (.h i a b) | none => none) | .v _ => none)
def upN (ps : List Nm) : Nm → Option Nm
 | .v i => ps[i]?
 | .h i a b => match ps[i]? with | some (.v p) => some (.h p a b) | _ => none
theorem mapN_up {ps : List Nm} {nm nm' : Nm} (h : mapN ps nm = some nm') : upN ps nm' = some nm := by
 unfold mapN at h
 split at h
 ·rename_i i hi; simp at h; subst h; exact idxOf_get hi
 ·split at h
  ·split at h
   ·rename_i i hi; simp at h; subst h; simp only [upN, idxOf_get hi]
   ·simp at h
  ·simp at h
def borOk (ps : List Nm) : Nm → Prop
 | .v p => ∀ a b, (Nm.h p a b) ∉ ps
 | .h _ _ _ => True
theorem mapN_none {ps : List Nm} {nm : Nm} (h : mapN ps nm = none) (hb : borOk ps nm) {q : Nm} (hq : q = nm ∨ ∃ p i j, nm = .v p ∧ q = .h p i j) : ∀ cn, upN ps cn ≠ some q := by
 intro cn hc
 unfold mapN at h
 split at h
 ·simp at h
 ·rename_i hi
  have hn := idxOf_none hi
  rcases hq with rfl | ⟨p, i, j, rfl, rfl⟩
  ·cases cn with
   | v i => exact hn (List.mem_of_getElem? hc)
   | h i a b =>
    simp only [upN] at hc
    split at hc
    ·rename_i p hp
     simp at hc; subst hc
     simp only at h
     split at h
     ·simp at h
     ·rename_i h2; exact idxOf_none h2 (List.mem_of_getElem? hp)
    ·simp at hc
  ·cases cn with
   | v m => exact hb i j (List.mem_of_getElem? hc)
   | h m a b =>
    simp only [upN] at hc
    split at hc
    ·rename_i p' hp
     simp at hc; obtain ⟨rfl, rfl, rfl⟩ := hc
     exact hn (List.mem_of_getElem? hp)
    ·simp at hc

def argC (bor : Bool) (S : St) (ps : List Nm) (c : CV) (K : CV → Prop) : Prop :=
 match c with
 | .dv d => K (.dv d)
 | .nil => K .nil
 | .dp cs f => K (.dp cs f)
 | .ptr p o => (match idxOf (.v p) ps with | some i => K (.ptr i o) | none => False)
 |.ep p k i f => (match mapN ps p with
  | some q => K (.ep q k i f)
  | none => (match S.Lx p with | some (k', es) => ∃ xs : List DV, (bor = true ∧ k = k' ∧ i < es.length ∧ borOk ps p ∧ xs.map some = (es.getD i []).map fzD) ∧ K (.dp xs f) | _ => False))
 |.os p k off len => (match mapN ps p with
  | some q => K (.os q k off len)
  | none => (match S.Lx p with | some (k', es) => ∃ xs, (bor = true ∧ k = k' ∧ off + len ≤ es.length ∧ borOk ps p ∧ Fz ((es.drop off).take len) xs) ∧ K (.dv (.sl xs)) | _ => False))
 | .sb .. => False
 | .dead => K .dead
def argCs (bor : Bool) (S : St) (ps : List Nm) : List CV → (List CV → Prop) → Prop
 | [], K => K []
 | c :: cs, K => argC bor S ps c fun c' => argCs bor S ps cs fun cs' => K (c' :: cs')
def argS (bor : Bool) (S : St) (ps : List Nm) (v : SV) (K : SV → Prop) : Prop :=
 match v with
 | .one c => argC bor S ps c fun c' => K (.one c')
 | .agg cs => argCs bor S ps cs fun cs' => K (.agg cs')
 | .arr ds => K (.arr ds)
 | .tup _ => False
def argSs (bor : Bool) (S : St) (ps : List Nm) : List SV → (List SV → Prop) → Prop
 | [], K => K []
 | v :: vs, K => argS bor S ps v fun v' => argSs bor S ps vs fun vs' => K (v' :: vs')
def rowsD (bor : Bool) (S : St) (ps0 : List Nm) : List Nm → (List Row → Prop) → Prop
 | [], K => K []
 | .v p :: ps, K =>
  (match S.L p with
  | some (.own k es) => rowsD bor S ps0 ps fun rs => K (.own k es :: rs)
  | some (.box cs) => argCs bor S ps0 cs fun cs' => rowsD bor S ps0 ps fun rs => K (.box cs' :: rs)
  | none => False)
 | .h p a b :: ps, K =>
  (match S.Lx (.h p a b) with
  | some (k, es) => rowsD bor S ps0 ps fun rs => K (.own k es :: rs)
  | none => False)

section
variable {P : Program} {w0 : World} {M : Rows0} {N : Nat} {V V0 : View} {bs : Loc} {S : St} {a : Act} {w : World}

theorem Lx_room {nm : Nm} {k b n : Nat} {es : List (List DV)} (hs : Sat1 w0 M N V bs S a w) (hL : S.Lx nm = some (k, es)) (hb : bs nm = some (b, n)) : es.length * k ≤ n ∧ True := by
 refine ⟨?_, trivial⟩
 cases nm with
 | v p =>
  simp only [St.Lx] at hL
  split at hL
  ·rename_i k1 es1 hLp
   simp only [Option.some.injEq, Prod.mk.injEq] at hL
   obtain ⟨rfl, rfl⟩ := hL
   rcases hs.rows p _ hLp with ⟨b1, n1, hb1, g1, _⟩ | ⟨hb1, _⟩
   ·rw [hb1] at hb
    simp only [Option.some.injEq, Prod.mk.injEq] at hb
    obtain ⟨rfl, rfl⟩ := hb
    exact g1
   ·rw [hb1] at hb; simp at hb
  ·simp at hL
 | h p a' b' =>
  obtain ⟨k0, es0, e0, off0, len0, hLp, he0, hd0⟩ := Lx_h hL
  obtain ⟨hi0, he0'⟩ := List.getElem?_eq_some_iff.1 he0
  subst he0'
  obtain ⟨hj0, hd0'⟩ := List.getElem?_eq_some_iff.1 hd0
  rcases hs.rows p _ hLp with ⟨b1, n1, hb1, g1, g2, g3, g4⟩ | ⟨_, k1, hk⟩
  ·obtain ⟨v, g5, g6⟩ := g4 a' b' hi0 hj0
   rw [hd0'] at g6
   cases g6 with
   | rd h => cases h
   | ow hb2 ho hl hc h =>
    rw [hb2] at hb
    simp only [Option.some.injEq, Prod.mk.injEq] at hb
    obtain ⟨rfl, rfl⟩ := hb
    exact h.1
   | ownil _ _ h => rw [h] at hb; simp at hb
  ·simp at hk; obtain ⟨_, rfl⟩ := hk; simp at hi0
section
variable {bor : Bool} {ps : List Nm} {V1 : View} {bs1 : Loc} (hs : Sat1 w0 M N V bs S a w) (hbs1 : ∀ nm p, upN ps nm = some p → bs1 nm = bs p) (hV : V.le V1)
 (hcov : bor = true → ∀ p b n, (∀ cn, upN ps cn ≠ some p) → bs p = some (b, n) → ∀ x u, x.block = b → w.cell? x = some u → V1 x = some u)
include hs hbs1 hV hcov
theorem argC_ok {c : CV} {v : Value} {K : CV → Prop} (hc : CR V bs c v) (h : argC bor S ps c K) : ∃ c', K c' ∧ CR V1 bs1 c' v := by
 unfold argC at h
 split at h
 ·cases hc; rename_i hr; exact ⟨_, h, .dv (hr.mono hV)⟩
 ·cases hc; exact ⟨_, h, .nil⟩
 ·cases hc; rename_i h1 h2; exact ⟨_, h, .dp (fun j hj => hV _ _ (h1 j hj)) (fun j hj => (h2 j hj).mono hV)⟩
 ·split at h
  ·rename_i i hi
   cases hc; rename_i hb; exact ⟨_, h, .ptr (by rw [hbs1 (.v i) _ (idxOf_get hi)]; exact hb)⟩
  ·exact h.elim
 ·split at h
  ·rename_i q hi
   cases hc; rename_i hb; exact ⟨_, h, .ep (by rw [hbs1 _ _ (mapN_up hi)]; exact hb)⟩
  ·rename_i k i f0 x0 hi
   split at h
   ·rename_i k' es hL
    obtain ⟨xs, ⟨hb, rfl, hlt, hbo, hf⟩, h⟩ := h
    cases hc with
    | @ep _ _ _ _ b n hbp =>
     have hro := Lx_room hs hL hbp
     have hc' : CR V bs (.os _ k i 1) (.slice (some ⟨b, i * k, none⟩) 1 1) := .os hbp (Nat.le_refl _) (Nat.le_trans (Nat.mul_le_mul_right _ (show i + 1 ≤ es.length from hlt)) hro.1)
     have hf1 : Fz ((es.drop i).take 1) [xs] := by
      rw [List.drop_eq_getElem_cons hlt, List.take_succ_cons, List.take_zero]
      refine Fz.cons ?_ Fz.nil
      rw [hf]; simp [List.getD, hlt]
     have hrd := own_rd hs hL hV (fun q hq b n hbn => hcov hb q b n (mapN_none hi hbo hq) hbn) hc' (by omega) hf1
     obtain ⟨ad, cap, e1, _, e3⟩ := hrd.inv
     obtain ⟨b2, o2, k2, g2, h1, h2, h3, h4⟩ := e3 (by simp)
     simp only [Value.slice.injEq] at e1
     obtain ⟨e1, -, -⟩ := e1
     rw [h1] at e1
     simp only [Option.some.injEq, Addr.mk.injEq] at e1
     obtain ⟨rfl, rfl, -⟩ := e1
     have hk2 : xs.length = k2 := h2 0 (by simp)
     refine ⟨_, h, ?_⟩
     exact .dp (g := g2 0) (fun j hj => by have := h3 0 j (by simp) (by omega); simpa using this) (fun j hj => h4 0 j (by simp) (by simpa using hj))
   ·exact h.elim
 ·split at h
  ·rename_i q hi
   cases hc with
   | os hb hl hcap => exact ⟨_, h, .os (by rw [hbs1 _ _ (mapN_up hi)]; exact hb) hl hcap⟩
   | oszero => exact ⟨_, h, .oszero⟩
  ·rename_i hi
   split at h
   ·rename_i k' es hL
    obtain ⟨xs, ⟨hb, rfl, hle, hbo, hf⟩, h⟩ := h
    exact ⟨_, h, .dv (own_rd hs hL hV (fun q hq b n hbn => hcov hb q b n (mapN_none hi hbo hq) hbn) hc hle hf)⟩
   ·exact h.elim
 ·exact h.elim
 ·exact ⟨_, h, .dead _⟩
theorem argCs_ok {cs : List CV} {vs : List Value} (hc : CRs V bs cs vs) : ∀ {K : List CV → Prop}, argCs bor S ps cs K → ∃ cs', K cs' ∧ CRs V1 bs1 cs' vs := by
 induction hc with
 | nil => intro K h; exact ⟨[], h, .nil⟩
 | cons hcv _ ih =>
  intro K h
  obtain ⟨c', h, h1⟩ := argC_ok hs hbs1 hV hcov hcv h
  obtain ⟨cs', h, h2⟩ := ih h
  exact ⟨_, h, .cons h1 h2⟩
theorem argS_ok {sv : SV} {v : Value} {K : SV → Prop} (hc : VR V bs sv v) (h : argS bor S ps sv K) : ∃ sv', K sv' ∧ VR V1 bs1 sv' v := by
 unfold argS at h
 split at h
 ·obtain ⟨c', h, h1⟩ := argC_ok hs hbs1 hV hcov (vr_one hc) h; exact ⟨_, h, .one h1⟩
 ·cases hc with
  | agg hcs => obtain ⟨cs', h, h1⟩ := argCs_ok hs hbs1 hV hcov hcs h; exact ⟨_, h, .agg h1⟩
 ·cases hc with
  | arr hcs => exact ⟨_, h, .arr (hcs.plain hV)⟩
 ·exact h.elim
theorem argSs_ok : ∀ {svs : List SV} {vs : List Value} {K : List SV → Prop}, Args V bs svs vs → argSs bor S ps svs K → ∃ svs', K svs' ∧ Args V1 bs1 svs' vs
 | [], vs, K, hc, h => ⟨[], h, ⟨hc.len, fun i sv v h1 => by simp at h1⟩⟩
 | sv :: svs, [], K, hc, h => by have := hc.len; simp at this
 |sv :: svs, v :: vs, K, hc, h => by
  obtain ⟨sv', h, h1⟩ := argS_ok hs hbs1 hV hcov (hc.get 0 sv v rfl rfl) h
  obtain ⟨svs', h, h2⟩ := argSs_ok (svs := svs) (vs := vs) ⟨by simpa using hc.len, fun i sv v h3 h4 => hc.get (i + 1) sv v (by simpa using h3) (by simpa using h4)⟩ h
  refine ⟨_, h, ⟨by simp [h2.len], fun i s u h3 h4 => ?_⟩⟩
  cases i with
  | zero => simp at h3 h4; subst h3; subst h4; exact h1
  | succ i => exact h2.get i s u (by simpa using h3) (by simpa using h4)
omit hs hbs1 hV hcov in
theorem Lx_in {p a' b' k : Nat} {es : List (List DV)} (hs : Sat1 w0 M N V bs S a w) (hL : S.Lx (.h p a' b') = some (k, es)) : (∃ b n, bs (.h p a' b') = some (b, n) ∧ InSat V w b n k es) ∨ (bs (.h p a' b') = none ∧ es = []) := by
 obtain ⟨k0, es0, e0, off0, len0, hLp, he0, hd0⟩ := Lx_h hL
 obtain ⟨hi0, he0'⟩ := List.getElem?_eq_some_iff.1 he0
 subst he0'
 obtain ⟨hj0, hd0'⟩ := List.getElem?_eq_some_iff.1 hd0
 rcases hs.rows p _ hLp with ⟨b, n, hb, g1, g2, g3, g4⟩ | ⟨_, k1, hk⟩
 ·obtain ⟨v, g5, g6⟩ := g4 a' b' hi0 hj0
  rw [hd0'] at g6
  cases g6 with
  | rd h => cases h
  | ow hb ho hl hc h => exact .inl ⟨_, _, hb, h⟩
  | ownil _ _ h => exact .inr ⟨h, rfl⟩
 ·simp at hk; obtain ⟨_, rfl⟩ := hk; simp at hi0
theorem rowsD_ok : ∀ {qs : List Nm} {i0 : Nat} {K : List Row → Prop}, (∀ i, qs[i]? = ps[i0 + i]?) → rowsD bor S ps qs K → ∃ rs, K rs ∧ rs.length = qs.length ∧
  ∀ (i : Nat) q r, qs[i]? = some q → rs[i]? = some r → S.L q.top ≠ none ∧ ((∃ b n, bs q = some (b, n) ∧ RowSat V1 bs1 w (i0 + i) b n r) ∨ (bs q = none ∧ ∃ k, r = .own k []))
 | [], _, K, _, h => ⟨[], h, rfl, fun i q r h1 => by simp at h1⟩
 |q :: qs, i0, K, hq, h => by
  have hq0 : ps[i0]? = some q := by have := hq 0; simpa using this.symm
  have hqs : ∀ i, qs[i]? = ps[(i0 + 1) + i]? := fun i => by have := hq (i + 1); rw [show i0 + (i + 1) = i0 + 1 + i by omega] at this; simpa using this
  have fin : ∀ {r : Row} {K' : List Row → Prop}, (S.L q.top ≠ none ∧ ((∃ b n, bs q = some (b, n) ∧ RowSat V1 bs1 w i0 b n r) ∨ (bs q = none ∧ ∃ k, r = .own k []))) → (rowsD bor S ps qs fun rs => K (r :: rs)) → ∃ rs, K rs ∧ rs.length = (q :: qs).length ∧
    ∀ (i : Nat) q' r, (q :: qs)[i]? = some q' → rs[i]? = some r → S.L q'.top ≠ none ∧ ((∃ b n, bs q' = some (b, n) ∧ RowSat V1 bs1 w (i0 + i) b n r) ∨ (bs q' = none ∧ ∃ k, r = .own k [])) := fun {r K'} hr h => by
   obtain ⟨rs, h, h1, h2⟩ := rowsD_ok hqs h
   refine ⟨_, h, by simp [h1], fun i q' r' h3 h4 => ?_⟩
   cases i with
   | zero => simp at h3 h4; subst h3; subst h4; exact hr
   | succ i => have := h2 i q' r' (by simpa using h3) (by simpa using h4); rwa [show i0 + 1 + i = i0 + (i + 1) by omega] at this
  cases q with
  | v p =>
   simp only [rowsD] at h
   split at h
   ·rename_i k es hL
    refine fin (K' := K) ⟨by simp only [Nm.top]; rw [hL]; simp, (hs.rows _ _ hL).imp (fun ⟨b, n, h5, h6⟩ => ⟨b, n, h5, ?_⟩) id⟩ h
    obtain ⟨g1, g2, g3, g4⟩ := h6
    exact ⟨g1, g2, g3, fun i j hi hj => by obtain ⟨v, g5, g6⟩ := g4 i j hi hj; exact ⟨v, g5, g6.mono hV (hbs1 _ _ (by simp only [upN, hq0])) (fun _ _ _ => rfl)⟩⟩
   ·rename_i cs hL
    rcases hs.rows _ _ hL with ⟨b, n, h5, g1, g2, g0, vs, g3, g4⟩ | ⟨_, k, hk⟩
    ·obtain ⟨cs', h, g5⟩ := argCs_ok hs hbs1 hV hcov g3 h
     exact fin (K' := K) (r := .box cs') ⟨by simp only [Nm.top]; rw [hL]; simp, .inl ⟨b, n, h5, by rw [g1, g3.length, g5.length], g2, fun i j => (hbs1 (.h i0 i j) (.h p i j) (by simp only [upN, hq0])).trans (g0 i j), vs, g5, g4⟩⟩ h
    ·simp at hk
   ·exact h.elim
  | h p a1 b1 =>
   simp only [rowsD] at h
   split at h
   ·rename_i k es hL
    obtain ⟨k0, es0, e0, off0, len0, hLp, _, _⟩ := Lx_h hL
    refine fin (K' := K) ⟨by simp only [Nm.top]; rw [hLp]; simp, ?_⟩ h
    rcases Lx_in hs hL with ⟨b, n, hb, g1, g2, g3, g4⟩ | ⟨hb, rfl⟩
    ·exact .inl ⟨b, n, hb, g1, g2, g3, fun i j hi hj => by obtain ⟨v, g5, g6⟩ := g4 i j hi hj; exact ⟨v, g5, .rd (g6.mono hV)⟩⟩
    ·exact .inr ⟨hb, k, rfl⟩
   ·exact h.elim
end
end

def backV (ps : List Nm) (nm i : Nat) : Nm := match ps[i]? with | some q => q | none => .v (nm + (i - ps.length))
def backN (ps : List Nm) (nm : Nat) : Nm → Option Nm
 | .v i => some (backV ps nm i)
 | .h i a b => match backV ps nm i with | .v p => some (.h p a b) | .h _ _ _ => none
def backC (ps : List Nm) (nm : Nat) : CV → CV
 | .os p k off len => (match backN ps nm p with | some q => .os q k off len | none => .dead)
 | .ptr p o => (match backV ps nm p with | .v q => .ptr q o | .h _ _ _ => .dead)
 | .ep p k i f => (match backN ps nm p with | some q => .ep q k i f | none => .dead)
 | .sb p o k n => (match backV ps nm p with | .v q => .sb q o k n | .h _ _ _ => .dead)
 | c => c
def flatD : DV → Bool | .sc _ => true | .sl es => es.isEmpty | .ow _ _ _ es => es.all fun e => e.all fun d => (match d with | .sc _ => true | .sl es => es.isEmpty | _ => false) | .no => true
end Go.Proofs.Ytpdjehnlejjfmaa.D
