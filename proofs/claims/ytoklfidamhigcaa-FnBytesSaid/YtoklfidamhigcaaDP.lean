/- Calls. -/
import Derived.Test.YtoklfidamhigcaaDO
namespace Go.Proofs.Ytoklfidamhigcaa.D
open Go.RowKit

abbrev SatL (w0 : World) (M : Rows0) (V : View) (bs : Loc) (L : Nat → Option Row) (w : World) (mv : List Nat := []) : Prop := Sat1 w0 M 0 V bs ⟨fun _ => .one .dead, L, mv⟩ ⟨#[], []⟩ w
def Lof (rows : List Row) : Nat → Option Row := fun p => rows[p]?

structure Args (V : View) (bs : Loc) (args : List SV) (vs : List Value) : Prop where
  len : args.length = vs.length
  get : ∀ (i : Nat) sv v, args[i]? = some sv → vs[i]? = some v → VR V bs sv v

/-- What a call of f makes of its arguments and of the rows that it may write to (numbered from 0 on). -/
def Enters (P : Program) (f : FuncId) : Prop := ∃ fn, P.funcs[f]? = some fn ∧ (fn.name == "runtime.NumGoroutine") = false ∧ fn.body.isNone = false
/-- What is given back is made of new memory alone. -/
def Clean (w : World) (M : Rows0) (V' : View) (bs' : Loc) (Lo : List Row) (w' : World) (mv : List Nat) (res : SV) (v : Value) : Prop :=
  ∃ Vc : View, Vc.le V' ∧ (∀ x u, Vc x = some u → w.heap.size ≤ x.block) ∧ SatL w M Vc bs' (Lof Lo) w' mv ∧ VR Vc bs' res v
/-- A call's contract: whatever is given back is as Post says (and, where 'cl', made of new memory alone); the rows 'mv' may lie elsewhere behind it. -/
def CallM (P : Program) (f : FuncId) (args : List SV) (Li : List Row) (mv : List Nat) (cl : Bool) (Post : SV → List Row → Prop) : Prop :=
  Enters P f ∧ ∀ (w : World) (M : Rows0) (V : View) (bs : Loc) (vs : List Value), M.length = Li.length → SatL w M V bs (Lof Li) w → Args V bs args vs →
    Calls P f vs.toArray w fun e w' => ∃ v V' bs' res Lo, e = .returned v ∧ Post res Lo ∧ Li.length ≤ Lo.length ∧ V.le V' ∧ (∀ x u, V' x = some u → V x = some u ∨ w.heap.size ≤ x.block) ∧ SatL w M V' bs' (Lof Lo) w' mv ∧ VR V' bs' res v ∧
      (cl = true → Clean w M V' bs' Lo w' mv res v)
abbrev CallR (P : Program) (f : FuncId) (args : List SV) (Li : List Row) (cl : Bool) (Post : SV → List Row → Prop) : Prop := CallM P f args Li [] cl Post
/-- .. just this. -/
def CallD (P : Program) (f : FuncId) (args : List SV) (Li : List Row) (res : SV) (Lo : List Row) : Prop := CallR P f args Li true fun r l => r = res ∧ l = Lo
theorem CallM.mono {P : Program} {f : FuncId} {args : List SV} {Li : List Row} {mv : List Nat} {cl : Bool} {Post Post' : SV → List Row → Prop} (h : CallM P f args Li mv cl Post) (hp : ∀ r l, Post r l → Post' r l) : CallM P f args Li mv cl Post' :=
  ⟨h.1, fun w M V bs vs h1 h2 h3 => (h.2 w M V bs vs h1 h2 h3).mono fun _ _ ⟨v, V', bs', res, Lo, g1, g2, g⟩ => ⟨v, V', bs', res, Lo, g1, hp _ _ g2, g⟩⟩

section
variable {P : Program} {w0 : World} {M : Rows0} {N : Nat} {V V0 : View} {bs : Loc} {S : St} {a : Act} {w : World}

theorem Sat1.toL (h : Sat1 w0 M N V bs S a w) : SatL w0 M V bs S.L w S.mv :=
  ⟨h.keep, h.view, h.apart, h.inj, h.fresh, h.par, h.ml, h.dom, h.rows, fun t => by simp; exact .one (.dead _), rfl, rfl⟩
theorem Sat1.ofL {L : Nat → Option Row} {mv : List Nat} {T : Nat → SV} (h : SatL w0 M V bs L w mv) (ht : ∀ t, VR V bs (T t) (a.tmps.getD t undef)) (hd : a.defers = []) (hn : a.tmps.size = N) : Sat1 w0 M N V bs ⟨T, L, mv⟩ a w :=
  ⟨h.keep, h.view, h.apart, h.inj, h.fresh, h.par, h.ml, h.dom, h.rows, ht, hd, hn⟩
end

/-- Which of the names that are handed on a name is. -/
def idxOf (p : Nat) : List Nat → Option Nat
  | [] => none
  | q :: ps => if p = q then some 0 else (idxOf p ps).map (· + 1)
theorem idxOf_get {p : Nat} : ∀ {ps : List Nat} {i : Nat}, idxOf p ps = some i → ps[i]? = some p
  | q :: ps, i, h => by
    simp only [idxOf] at h
    split at h
    · rename_i e; simp at h; subst h; subst e; rfl
    · simp only [Option.map_eq_some_iff] at h
      obtain ⟨j, hj, rfl⟩ := h
      simpa using idxOf_get hj

theorem idxOf_none {p : Nat} : ∀ {ps : List Nat}, idxOf p ps = none → p ∉ ps
  | [], _ => by simp
  | q :: ps, h => by
    simp only [idxOf] at h
    split at h
    · simp at h
    · rename_i e
      simp only [Option.map_eq_none_iff] at h
      simp [e, idxOf_none h]

/-- A cell, as the called function names it; rows that are not handed on are read, where 'bor'. -/
def argC (bor : Bool) (S : St) (ps : List Nat) (c : CV) (K : CV → Prop) : Prop :=
  match c with
  | .dv d => K (.dv d)
  | .nil => K .nil
  | .dp cs f => K (.dp cs f)
  | .ptr p o => (match idxOf p ps with | some i => K (.ptr i o) | none => False)
  | .ep p k i f => (match idxOf p ps with | some j => K (.ep j k i f) | none => False)
  | .os p k off len => (match idxOf p ps with
    | some i => K (.os i k off len)
    | none => (match S.L p with | some (.own k' es) => (bor = true ∧ k = k' ∧ off + len ≤ es.length) ∧ K (.dv (.sl ((es.drop off).take len))) | _ => False))
  | .sb .. => False
  | .dead => K .dead
def argCs (bor : Bool) (S : St) (ps : List Nat) : List CV → (List CV → Prop) → Prop
  | [], K => K []
  | c :: cs, K => argC bor S ps c fun c' => argCs bor S ps cs fun cs' => K (c' :: cs')
def argS (bor : Bool) (S : St) (ps : List Nat) (v : SV) (K : SV → Prop) : Prop :=
  match v with
  | .one c => argC bor S ps c fun c' => K (.one c')
  | .agg cs => argCs bor S ps cs fun cs' => K (.agg cs')
  | .tup _ => False
def argSs (bor : Bool) (S : St) (ps : List Nat) : List SV → (List SV → Prop) → Prop
  | [], K => K []
  | v :: vs, K => argS bor S ps v fun v' => argSs bor S ps vs fun vs' => K (v' :: vs')
def rowsD (bor : Bool) (S : St) (ps0 : List Nat) : List Nat → (List Row → Prop) → Prop
  | [], K => K []
  | p :: ps, K =>
    match S.L p with
    | some (.own k es) => rowsD bor S ps0 ps fun rs => K (.own k es :: rs)
    | some (.box cs) => argCs bor S ps0 cs fun cs' => rowsD bor S ps0 ps fun rs => K (.box cs' :: rs)
    | none => False

section
variable {P : Program} {w0 : World} {M : Rows0} {N : Nat} {V V0 : View} {bs : Loc} {S : St} {a : Act} {w : World}

theorem own_rd (h : Sat1 w0 M N V bs S a w) {p k : Nat} {es : List (List DV)} (hL : S.L p = some (.own k es)) {V1 : View} (hel : ∀ e ∈ es, ∀ d ∈ e, ∀ v, Rd V v d → Rd V1 v d)
    (hcov : ∀ b n, bs p = some (b, n) → ∀ x u, x.block = b → w.cell? x = some u → V1 x = some u) {off len : Nat} {v : Value} (hc : CR V bs (.os p k off len) v) (hle : off + len ≤ es.length) :
    Rd V1 v (.sl ((es.drop off).take len)) := by
  have hlen : ((es.drop off).take len).length = len := by simp; omega
  cases hc with
  | @os _ _ _ _ b n cap hb hl hcap =>
    rcases h.rows p _ hL with ⟨b', n', hb', hr⟩ | ⟨hb', _⟩
    · rw [hb] at hb'; simp at hb'; obtain ⟨rfl, rfl⟩ := hb'
      obtain ⟨h1, h2, h3, h4⟩ := hr
      have hget : ∀ i (hi : i < ((es.drop off).take len).length), ((es.drop off).take len)[i] = es[off + i]'(by omega) := fun i hi => by simp
      have hex : ∀ i j, ∃ v, i < len → j < k → (w.cell? ⟨b, (off + i) * k + j, none⟩ = some v ∧ ∀ (hi : off + i < es.length) (hj : j < es[off + i].length), Rd V v (es[off + i][j])) := fun i j => by
        by_cases hij : i < len ∧ j < k
        · have hi : off + i < es.length := by omega
          have hj : j < es[off + i].length := by rw [h3 _ hi]; exact hij.2
          obtain ⟨v, h5, h6⟩ := h4 _ j hi hj
          exact ⟨v, fun _ _ => ⟨h5, fun _ _ => h6⟩⟩
        · exact ⟨undef, fun h1 h2 => absurd ⟨h1, h2⟩ hij⟩
      have hsl := Rd.sl (V := V1) b (off * k) k cap ((es.drop off).take len) (fun i j => Classical.choose (hex i j)) (by omega) (fun i hi => by rw [hget i hi]; exact h3 _ _) (fun i j hi hj => ?_) (fun i j hi hj => ?_)
      · rw [hlen] at hsl; exact hsl
      · rw [hlen] at hi
        have := (Classical.choose_spec (hex i j) hi hj).1
        rw [show off * k + i * k + j = (off + i) * k + j by rw [Nat.add_mul]]
        exact hcov _ _ hb _ _ rfl this
      · have h5 := hget i hi
        have hi' : i < len := by omega
        have hj' : j < k := by rw [h5, h3] at hj; exact hj
        have := (Classical.choose_spec (hex i j) hi' hj').2 (by omega) (by rw [h3]; exact hj')
        have h6 : ((es.drop off).take len)[i][j] = (es[off + i]'(by omega))[j]'(by rw [h3]; exact hj') := by simp
        rw [h6]; exact hel _ (List.getElem_mem _) _ (List.getElem_mem _) _ this
    · rw [hb] at hb'; simp at hb'
  | oszero => simp; exact .nil _ _

section
variable {bor : Bool} {ps : List Nat} {V1 : View} {bs1 : Loc} (hs : Sat1 w0 M N V bs S a w) (hbs1 : ∀ (i : Nat) p, ps[i]? = some p → bs1 i = bs p) (hV : V.le V1)
  (hcov : bor = true → ∀ p b n, p ∉ ps → bs p = some (b, n) → ∀ x u, x.block = b → w.cell? x = some u → V1 x = some u)
include hs hbs1 hV hcov
theorem argC_ok {c : CV} {v : Value} {K : CV → Prop} (hc : CR V bs c v) (h : argC bor S ps c K) : ∃ c', K c' ∧ CR V1 bs1 c' v := by
  unfold argC at h
  split at h
  · cases hc; rename_i hr; exact ⟨_, h, .dv (hr.mono hV)⟩
  · cases hc; exact ⟨_, h, .nil⟩
  · cases hc; rename_i h1 h2; exact ⟨_, h, .dp (fun j hj => hV _ _ (h1 j hj)) (fun j hj => (h2 j hj).mono hV)⟩
  · split at h
    · rename_i i hi
      cases hc; rename_i hb; exact ⟨_, h, .ptr (by rw [hbs1 _ _ (idxOf_get hi)]; exact hb)⟩
    · exact h.elim
  · split at h
    · rename_i i hi
      cases hc; rename_i hb; exact ⟨_, h, .ep (by rw [hbs1 _ _ (idxOf_get hi)]; exact hb)⟩
    · exact h.elim
  · split at h
    · rename_i i hi
      cases hc with
      | os hb hl hcap => exact ⟨_, h, .os (by rw [hbs1 _ _ (idxOf_get hi)]; exact hb) hl hcap⟩
      | oszero => exact ⟨_, h, .oszero⟩
    · rename_i hi
      split at h
      · rename_i k' es hL
        obtain ⟨⟨hb, rfl, hle⟩, h⟩ := h
        exact ⟨_, h, .dv (own_rd hs hL (fun _ _ _ _ _ h => h.mono hV) (fun b n hbn => hcov hb _ b n (idxOf_none hi) hbn) hc hle)⟩
      · exact h.elim
  · exact h.elim
  · exact ⟨_, h, .dead _⟩
theorem argCs_ok {cs : List CV} {vs : List Value} (hc : CRs V bs cs vs) : ∀ {K : List CV → Prop}, argCs bor S ps cs K → ∃ cs', K cs' ∧ CRs V1 bs1 cs' vs := by
  induction hc with
  | nil => intro K h; exact ⟨[], h, .nil⟩
  | cons hcv _ ih =>
    intro K h
    obtain ⟨c', h, h1⟩ := argC_ok hs hbs1 hV hcov hcv h
    obtain ⟨cs', h, h2⟩ := ih h
    exact ⟨_, h, .cons h1 h2⟩
theorem argS_ok {sv : SV} {v : Value} {K : SV → Prop} (hc : VR V bs sv v) (h : argS bor S ps sv K) : ∃ sv', K sv' ∧ VR V1 bs1 sv' v := by
  unfold argS at h
  split at h
  · obtain ⟨c', h, h1⟩ := argC_ok hs hbs1 hV hcov (vr_one hc) h; exact ⟨_, h, .one h1⟩
  · cases hc with
    | agg hcs => obtain ⟨cs', h, h1⟩ := argCs_ok hs hbs1 hV hcov hcs h; exact ⟨_, h, .agg h1⟩
  · exact h.elim
theorem argSs_ok : ∀ {svs : List SV} {vs : List Value} {K : List SV → Prop}, Args V bs svs vs → argSs bor S ps svs K → ∃ svs', K svs' ∧ Args V1 bs1 svs' vs
  | [], vs, K, hc, h => ⟨[], h, ⟨hc.len, fun i sv v h1 => by simp at h1⟩⟩
  | sv :: svs, [], K, hc, h => by have := hc.len; simp at this
  | sv :: svs, v :: vs, K, hc, h => by
    obtain ⟨sv', h, h1⟩ := argS_ok hs hbs1 hV hcov (hc.get 0 sv v rfl rfl) h
    obtain ⟨svs', h, h2⟩ := argSs_ok (svs := svs) (vs := vs) ⟨by simpa using hc.len, fun i sv v h3 h4 => hc.get (i + 1) sv v (by simpa using h3) (by simpa using h4)⟩ h
    refine ⟨_, h, ⟨by simp [h2.len], fun i s u h3 h4 => ?_⟩⟩
    cases i with
    | zero => simp at h3 h4; subst h3; subst h4; exact h1
    | succ i => exact h2.get i s u (by simpa using h3) (by simpa using h4)
theorem rowsD_ok : ∀ {qs : List Nat} {K : List Row → Prop}, rowsD bor S ps qs K → ∃ rs, K rs ∧ rs.length = qs.length ∧
    ∀ (i : Nat) q r, qs[i]? = some q → rs[i]? = some r → S.L q ≠ none ∧ ((∃ b n, bs q = some (b, n) ∧ RowSat V1 bs1 w b n r) ∨ (bs q = none ∧ ∃ k, r = .own k []))
  | [], K, h => ⟨[], h, rfl, fun i q r h1 => by simp at h1⟩
  | q :: qs, K, h => by
    simp only [rowsD] at h
    split at h
    · rename_i k es hL
      obtain ⟨rs, h, h1, h2⟩ := rowsD_ok h
      refine ⟨_, h, by simp [h1], fun i q' r h3 h4 => ?_⟩
      cases i with
      | zero =>
        simp at h3 h4; subst h3; subst h4
        refine ⟨by rw [hL]; simp, (hs.rows _ _ hL).imp (fun ⟨b, n, h5, h6⟩ => ⟨b, n, h5, ?_⟩) id⟩
        obtain ⟨g1, g2, g3, g4⟩ := h6
        exact ⟨g1, g2, g3, fun i j hi hj => by obtain ⟨v, g5, g6⟩ := g4 i j hi hj; exact ⟨v, g5, g6.mono hV⟩⟩
      | succ i => exact h2 i q' r (by simpa using h3) (by simpa using h4)
    · rename_i cs hL
      rcases hs.rows _ _ hL with ⟨b, n, h5, g1, g2, vs, g3, g4⟩ | ⟨_, k, hk⟩
      · obtain ⟨cs', h, g5⟩ := argCs_ok hs hbs1 hV hcov g3 h
        obtain ⟨rs, h, h1, h2⟩ := rowsD_ok h
        refine ⟨_, h, by simp [h1], fun i q' r h3 h4 => ?_⟩
        cases i with
        | zero =>
          simp at h3 h4; subst h3; subst h4
          exact ⟨by rw [hL]; simp, .inl ⟨b, n, h5, by rw [g1, g3.length, g5.length], g2, vs, g5, g4⟩⟩
        | succ i => exact h2 i q' r (by simpa using h3) (by simpa using h4)
      · simp at hk
    · exact h.elim
end
end

/-- Names of the called function, turned back. -/
def backN (ps : List Nat) (nm : Nat) (i : Nat) : Nat := match ps[i]? with | some p => p | none => nm + (i - ps.length)
def backC (ps : List Nat) (nm : Nat) : CV → CV
  | .os p k off len => .os (backN ps nm p) k off len
  | .ptr p o => .ptr (backN ps nm p) o
  | .ep p k i f => .ep (backN ps nm p) k i f
  | .sb p o k n => .sb (backN ps nm p) o k n
  | c => c
/-- Nothing is reached from it but what is named. -/
def flatD : DV → Bool | .sc _ => true | .sl es => es.isEmpty
def flatC : CV → Bool | .dv d => flatD d | .dp _ _ => false | _ => true
def flatS : SV → Bool | .one c => flatC c | .agg cs => cs.all flatC | .tup vs => vs.all fun p => p.2.all flatC
def flatR : Row → Prop | .box cs => cs.all flatC = true | .own _ es => ∀ e ∈ es, ∀ d ∈ e, flatD d = true
end Go.Proofs.Ytoklfidamhigcaa.D
