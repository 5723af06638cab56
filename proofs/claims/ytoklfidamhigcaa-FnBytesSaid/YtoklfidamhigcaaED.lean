/- The steps of a run: a function's end; what a state says less. -/
import Derived.Test.YtoklfidamhigcaaEC
namespace Go.Proofs.Ytoklfidamhigcaa.D
open Go.RowKit
set_option linter.unusedVariables false

section
variable {P : Program} {tb : TypeId → Option TyI} {S : St}

def resE (tb : TypeId → Option TyI) (S : St) : List ResultVar → (List SV → Prop) → Prop
  | [], K => K []
  | .tmp t :: rs, K => resE tb S rs fun vs => K (S.T t :: vs)
  | .cell t ty :: rs, K =>
    match tb ty, S.T t with
    | some i, .one c => ptrE S c fun cs o => selE i cs o fun v => resE tb S rs fun vs => K (v :: vs)
    | _, _ => False
theorem resE_ok : ∀ {rs : List ResultVar} {K K' : List SV → Prop}, (∀ vs, K vs → K' vs) → resE tb S rs K → resD tb S rs K'
  | [], _, _, hk, h => hk _ h
  | .tmp t :: rs, K, K', hk, h => resE_ok (rs := rs) (fun vs h => hk _ h) h
  | .cell t ty :: rs, K, K', hk, h => by
    simp only [resE] at h; simp only [resD]
    split at h
    · rename_i e1 e2; simp only [e1, e2]
      obtain ⟨cs, o, h1, h2⟩ := ptrE_ok h
      simp only [h1]
      exact selE_ok (fun v h => resE_ok (fun vs h => hk _ h) h) h2
    · exact h.elim
def cvNames (c : CV) : List Nat := match c with | .os p _ _ _ => [p] | .ptr p _ => [p] | .ep p _ _ _ => [p] | _ => []
def svNames : SV → List Nat | .one c => cvNames c | .agg cs => cs.foldr (fun c r => cvNames c ++ r) [] | .tup vs => vs.foldr (fun v r => v.2.foldr (fun c r => cvNames c ++ r) r) []
def boxesNames (S : St) : Nat → List Nat
  | 0 => []
  | n + 1 => boxesNames S n ++ boxNames S n
def upTo : Nat → List Nat | 0 => [] | n + 1 => upTo n ++ [n]
theorem upTo_eq (n : Nat) : upTo n = List.range n := by
  induction n with
  | zero => rfl
  | succ n ih => simp [upTo, ih, List.range_succ]
/-- What goes out: nil slices as empty ones, read (where 'nl') or own (those cells, by their numbers, with their elements' size); which of the results' own slices stay own; the others are read only from now on. -/
inductive Out (X : Bool → List Nat → List (Nat × Nat) → Prop) : Prop
  | mk (nl : Bool) (keep : List Nat) (z : List (Nat × Nat)) (h : X nl keep z)
def zlook (z : List (Nat × Nat)) (i : Nat) : Option Nat := match z with | [] => none | (j, k) :: r => match Nat.beq i j with | true => some k | false => zlook r i
def zCs (nl : Bool) (z : List (Nat × Nat)) : Nat → List CV → List CV × List (Nat × Nat)
  | _, [] => ([], [])
  | i, c :: cs =>
    match c with
    | .nil => (match zlook z i with
      | some k => (.os (1000000 + i) k 0 0 :: (zCs nl z (i + 1) cs).1, (1000000 + i, k) :: (zCs nl z (i + 1) cs).2)
      | none => ((match nl with | true => .dv (.sl []) | false => .nil) :: (zCs nl z (i + 1) cs).1, (zCs nl z (i + 1) cs).2))
    | c => (c :: (zCs nl z (i + 1) cs).1, (zCs nl z (i + 1) cs).2)
theorem zCs_wk {nl : Bool} {z : List (Nat × Nat)} : ∀ (cs : List CV) (i : Nat), wkCs cs (zCs nl z i cs).1
  | [], _ => trivial
  | c :: cs, i => by
    unfold zCs
    split
    · split
      · exact ⟨.inr ⟨rfl, .inr ⟨_, _, rfl⟩⟩, zCs_wk cs _⟩
      · cases nl
        · exact ⟨.inl rfl, zCs_wk cs _⟩
        · exact ⟨.inr ⟨rfl, .inl rfl⟩, zCs_wk cs _⟩
    · exact ⟨.inl rfl, zCs_wk cs _⟩
def zPs (nl : Bool) (z : List (Nat × Nat)) : Nat → List (Bool × List CV) → List (Bool × List CV) × List (Nat × Nat)
  | _, [] => ([], [])
  | i, (b, cs) :: ps => ((b, (zCs nl z i cs).1) :: (zPs nl z (i + cs.length) ps).1, (zCs nl z i cs).2 ++ (zPs nl z (i + cs.length) ps).2)
theorem zPs_wk {nl : Bool} {z : List (Nat × Nat)} : ∀ (ps : List (Bool × List CV)) (i : Nat), wkPs ps (zPs nl z i ps).1
  | [], _ => trivial
  | (b, cs) :: ps, i => ⟨⟨rfl, zCs_wk cs i⟩, zPs_wk ps _⟩
def zS (nl : Bool) (z : List (Nat × Nat)) : SV → SV
  | .one c => (match (zCs nl z 0 [c]).1 with | [c'] => .one c' | _ => .one c)
  | .agg cs => .agg (zCs nl z 0 cs).1
  | .tup ps => .tup (zPs nl z 0 ps).1
def zZ (nl : Bool) (z : List (Nat × Nat)) : SV → List (Nat × Nat)
  | .one c => (zCs nl z 0 [c]).2
  | .agg cs => (zCs nl z 0 cs).2
  | .tup ps => (zPs nl z 0 ps).2
theorem zS_wk {nl : Bool} {z : List (Nat × Nat)} (sv : SV) : wkS sv (zS nl z sv) := by
  cases sv with
  | one c =>
    simp only [zS]
    have := zCs_wk (nl := nl) (z := z) [c] 0
    split
    · rename_i c' e; rw [e] at this; exact this.1
    · exact .inl rfl
  | agg cs => exact zCs_wk cs 0
  | tup ps => exact zPs_wk ps 0
def emptiesE (S : St) : List (Nat × Nat) → (St → Prop) → Prop
  | [], K => K S
  | (p, k) :: zs, K => chk (fresh S p) (fN p fun p => emptiesE { S with L := upd S.L p (some (.own k [])) } zs K)
theorem emptiesE_ok : ∀ {zs : List (Nat × Nat)} {S : St} {K : St → Prop}, emptiesE S zs K → emptiesOk S zs ∧ K (S.empties zs)
  | [], _, _, h => ⟨trivial, h⟩
  | (p, k) :: zs, S, K, h => by
    obtain ⟨h1, h2⟩ := chk_iff.1 h
    obtain ⟨h3, h4⟩ := emptiesE_ok (fN_iff.1 h2)
    exact ⟨⟨fresh_iff h1, h3⟩, h4⟩
def keepNames (keep : List Nat) : SV → List Nat
  | .one c => (match keep.any (Nat.beq 0) with | true => cvNames c | false => [])
  | .agg cs => (match keep.any (Nat.beq 0) with | true => cs.foldr (fun c r => cvNames c ++ r) [] | false => [])
  | .tup ps => (ps.foldl (fun r p => (r.1 + 1, match keep.any (Nat.beq r.1) with | true => r.2 ++ p.2.foldr (fun c r => cvNames c ++ r) [] | false => r.2)) (0, [])).2
def argPsE (S : St) (out : List Nat) : List (Bool × List CV) → (List (Bool × List CV) → Prop) → Prop
  | [], K => K []
  | (b, cs) :: ps, K => argCsE true S out cs fun cs' => argPsE S out ps fun ps' => K ((b, cs') :: ps')
theorem argPsE_ok {out : List Nat} : ∀ {ps : List (Bool × List CV)} {K K' : List (Bool × List CV) → Prop}, (∀ x, K x → K' x) → argPsE S out ps K → argPs S out ps K'
  | [], _, _, hk, h => hk _ h
  | (b, cs) :: ps, K, K', hk, h => argCsE_ok (fun _ h => argPsE_ok (fun _ h => hk _ h) h) h
def argRE (S : St) (out : List Nat) (v : SV) (K : SV → Prop) : Prop :=
  match v with
  | .one c => argCE true S out c fun c' => K (.one c')
  | .agg cs => argCsE true S out cs fun cs' => K (.agg cs')
  | .tup ps => argPsE S out ps fun ps' => K (.tup ps')
theorem argRE_ok {out : List Nat} {v : SV} {K K' : SV → Prop} (hk : ∀ x, K x → K' x) (h : argRE S out v K) : argR S out v K' := by
  cases v with
  | one c => exact argCE_ok (fun _ h => hk _ h) h
  | agg cs => exact argCsE_ok (fun _ h => hk _ h) h
  | tup ps => exact argPsE_ok (fun _ h => hk _ h) h
def cleanCE (S : St) (out : List Nat) (c : CV) (X : Prop) : Prop :=
  match c with
  | .dv d => chk (flatD d) X
  | .dp _ _ => False
  | .os p _ _ _ => (match out.any (Nat.beq p) with | true => X | false => (match S.L p with | some (.own _ es) => Need (flatEs es) X | _ => X))
  | _ => X
theorem cleanCE_ok {out : List Nat} {c : CV} {X : Prop} (h : cleanCE S out c X) : cleanC S out c ∧ X := by
  unfold cleanCE at h; unfold cleanC
  split at h
  · exact chk_iff.1 h
  · exact h.elim
  · split at h
    · rename_i e
      obtain ⟨x, hx, h2⟩ := List.any_eq_true.1 e
      obtain rfl := Nat.eq_of_beq_eq_true h2
      exact ⟨.inl hx, h⟩
    · split at h
      · rename_i e; simp only [e]; exact ⟨.inr h.1, h.2⟩
      · rename_i hne
        refine ⟨.inr ?_, h⟩
        split
        · rename_i e; exact absurd e (hne _ _)
        · trivial
  · rename_i h1 h2 h3
    refine ⟨?_, h⟩
    split
    · exact absurd rfl (h1 _)
    · exact absurd rfl (h2 _ _)
    · exact absurd rfl (h3 _ _ _ _)
    · trivial
def cleanCsE (S : St) (out : List Nat) : List CV → Prop → Prop
  | [], X => X
  | c :: cs, X => cleanCE S out c (cleanCsE S out cs X)
theorem cleanCsE_ok {out : List Nat} : ∀ {cs : List CV} {X : Prop}, cleanCsE S out cs X → (∀ c ∈ cs, cleanC S out c) ∧ X
  | [], _, h => ⟨by simp, h⟩
  | c :: cs, X, h => by
    obtain ⟨h1, h2⟩ := cleanCE_ok h
    obtain ⟨h3, h4⟩ := cleanCsE_ok h2
    exact ⟨fun x hx => (List.mem_cons.1 hx).elim (fun e => e ▸ h1) (h3 x), h4⟩
def cleanPsE (S : St) (out : List Nat) : List (Bool × List CV) → Prop → Prop
  | [], X => X
  | p :: ps, X => cleanCsE S out p.2 (cleanPsE S out ps X)
theorem cleanPsE_ok {out : List Nat} : ∀ {ps : List (Bool × List CV)} {X : Prop}, cleanPsE S out ps X → (∀ p ∈ ps, ∀ c ∈ p.2, cleanC S out c) ∧ X
  | [], _, h => ⟨by simp, h⟩
  | p :: ps, X, h => by
    obtain ⟨h1, h2⟩ := cleanCsE_ok h
    obtain ⟨h3, h4⟩ := cleanPsE_ok h2
    exact ⟨fun x hx => (List.mem_cons.1 hx).elim (fun e => e ▸ h1) (h3 x), h4⟩
def cleanSE (S : St) (out : List Nat) (v : SV) (X : Prop) : Prop :=
  match v with
  | .one c => cleanCE S out c X
  | .agg cs => cleanCsE S out cs X
  | .tup ps => cleanPsE S out ps X
theorem cleanSE_ok {out : List Nat} {v : SV} {X : Prop} (h : cleanSE S out v X) : cleanS S out v ∧ X := by
  cases v with
  | one c => exact cleanCE_ok h
  | agg cs => exact cleanCsE_ok h
  | tup ps => exact cleanPsE_ok h
def cleanLE (S : St) (out : List Nat) : List Nat → Prop → Prop
  | [], X => X
  | p :: ps, X => match S.L p with
    | some (.own _ es) => Need (flatEs es) (cleanLE S out ps X)
    | some (.box cs) => cleanCsE S out cs (cleanLE S out ps X)
    | none => cleanLE S out ps X
theorem cleanLE_ok {out : List Nat} : ∀ {ps : List Nat} {X : Prop}, cleanLE S out ps X → (∀ p ∈ ps, ∀ r, S.L p = some r → cleanR S out r) ∧ X
  | [], _, h => ⟨by simp, h⟩
  | p :: ps, X, h => by
    unfold cleanLE at h
    split at h
    · rename_i e
      obtain ⟨h1, h2⟩ := h
      obtain ⟨h3, h4⟩ := cleanLE_ok h2
      exact ⟨fun x hx r hr => (List.mem_cons.1 hx).elim (fun e' => by subst e'; rw [e] at hr; injection hr with hr; subst hr; exact h1) (fun hx => h3 x hx r hr), h4⟩
    · rename_i e
      obtain ⟨h1, h2⟩ := cleanCsE_ok h
      obtain ⟨h3, h4⟩ := cleanLE_ok h2
      exact ⟨fun x hx r hr => (List.mem_cons.1 hx).elim (fun e' => by subst e'; rw [e] at hr; injection hr with hr; subst hr; exact h1) (fun hx => h3 x hx r hr), h4⟩
    · rename_i e
      obtain ⟨h3, h4⟩ := cleanLE_ok h
      exact ⟨fun x hx r hr => (List.mem_cons.1 hx).elim (fun e' => by subst e'; rw [e] at hr; simp at hr) (fun hx => h3 x hx r hr), h4⟩
def cleanE (cl : Bool) (S : St) (out : List Nat) (v : SV) (X : Prop) : Prop := match cl with | true => cleanSE S out v (cleanLE S out out X) | false => X
def finE (S : St) (sv : SV) (n : Nat) (mv : List Nat) (cl : Bool) (Post : SV → List Row → Prop) : Prop :=
  Out fun nl keep z => emptiesE S (zZ nl z sv) fun S => fS (zS nl z sv) fun sv =>
    fNs (upTo n ++ (uniq (keepNames keep sv ++ boxesNames S n)).filter fun p => Nat.ble n p)
      fun out => chk (nodupB out && S.mv.all fun p => Nat.ble n p || mv.any (Nat.beq p)) (cleanE cl S out sv (argRE S out sv fun res => rowsE true S out out fun Lo => fS res fun res => Done (Post res Lo)))
theorem finE_ok {sv : SV} {n : Nat} {mv : List Nat} {cl : Bool} {Post : SV → List Row → Prop} (h : finE S sv n mv cl Post) : finD S sv n mv cl Post := by
  obtain ⟨nl, keep, z, h⟩ := h
  obtain ⟨hz, h⟩ := emptiesE_ok h
  have h := fNs_iff.1 (fS_iff.1 h)
  generalize hSe : S.empties (zZ nl z sv) = Se at h
  generalize hout : upTo n ++ (uniq (keepNames keep (zS nl z sv) ++ boxesNames Se n)).filter (fun p => Nat.ble n p) = out at h
  obtain ⟨h1, h2⟩ := chk_iff.1 h
  simp only [Bool.and_eq_true] at h1
  obtain ⟨h1, hm⟩ := h1
  have hm : ∀ p ∈ Se.mv, p < n → p ∈ mv := fun p hp hlt => by
    have h5 := List.all_eq_true.1 hm p hp
    simp only [Bool.or_eq_true] at h5
    rcases h5 with h5 | h5
    · have := Nat.le_of_ble_eq_true h5; omega
    · obtain ⟨x, hx, h6⟩ := List.any_eq_true.1 h5
      rw [Nat.eq_of_beq_eq_true h6]; exact hx
  have h3 : (cl = true → cleanS Se out (zS nl z sv) ∧ ∀ p ∈ out, ∀ r, Se.L p = some r → cleanR Se out r) ∧ argRE Se out (zS nl z sv) fun res => rowsE true Se out out fun Lo => fS res fun res => Done (Post res Lo) := by
    cases cl with
    | false => exact ⟨fun h => by simp at h, h2⟩
    | true =>
      obtain ⟨g1, g2⟩ := cleanSE_ok h2
      obtain ⟨g3, g4⟩ := cleanLE_ok g2
      exact ⟨fun _ => ⟨g1, g3⟩, g4⟩
  refine ⟨zZ nl z sv, zS nl z sv, out, ⟨hz, zS_wk sv, by rw [hSe]; exact hm⟩, ⟨nodupB_ok h1, by rw [← hout, upTo_eq, List.take_append_of_le_length (by simp)]; simp⟩, ?_⟩
  rw [hSe]
  exact ⟨h3.1, argRE_ok (fun _ h => rowsE_ok (fun _ h => (fS_iff.1 h).ok) h) h3.2⟩
def joinE (vs : List SV) (K : SV → Prop) : Prop :=
  match vs with
  | [v] => K v
  | [] => K (.tup [])
  | u :: v :: vs => match pairsS (u :: v :: vs) with | some ps => K (.tup ps) | none => False
theorem joinE_ok {vs : List SV} {K K' : SV → Prop} (hk : ∀ v, K v → K' v) (h : joinE vs K) : joinD vs K' := by
  unfold joinE at h; unfold joinD
  split at h
  · exact hk _ h
  · simp only [pairsS]; exact hk _ h
  · split at h
    · rename_i e; simp only [e]; exact hk _ h
    · exact h.elim
def retE (tb : TypeId → Option TyI) (rs : List ResultVar) (n : Nat) (mv : List Nat) (cl : Bool) (Post : SV → List Row → Prop) : Exit → St → Prop
  | .normal, S => resE tb S rs fun vs => joinE vs fun sv => finE S sv n mv cl Post
  | .ret, S => resE tb S rs fun vs => joinE vs fun sv => finE S sv n mv cl Post
  | _, _ => False
theorem retE_ok {rs : List ResultVar} {n : Nat} {mv : List Nat} {cl : Bool} {Post : SV → List Row → Prop} : ∀ e S, retE tb rs n mv cl Post e S → retD tb rs n mv cl Post e S := by
  intro e S h
  cases e <;> first
    | exact h.elim
    | exact resE_ok (fun vs h => joinE_ok (fun v h => finE_ok h) h) h

def argT (args : List SV) (t : Nat) : SV := match args[t]? with | some v => v | none => .one .dead
theorem CallM.ofE (T : Tab P) {f : FuncId} {fn : Func} {c : Code} {args : List SV} {Li : List Row} {mv : List Nat} {cl : Bool} {Post : SV → List Row → Prop} (pl : Nat → Option PS) (hf : P.funcs[f]? = some fn) (hname : (fn.name == "runtime.NumGoroutine") = false) (hb : fn.body = some c)
    (hok : slotsOk fn.ntmps c = true) (hp : plansOk T.tb pl c = true) (hN : args.length ≤ fn.ntmps) (h : wpE P T.tb pl c ⟨argT args, Lof Li, []⟩ (retE T.tb fn.results.toList Li.length mv cl Post)) : CallM P f args Li mv cl Post := by
  refine CallM.of_body T hf hname hb hok hN ?_
  have := wpE_ok c _ _ _ hp retE_ok h
  have e : argT args = fun t => (args[t]?).getD (.one .dead) := by
    funext t; unfold argT; cases args[t]? <;> rfl
  rwa [e] at this

/-! What a state says less: shown cell by cell. -/
def eqC (S : St) (ls : List (Nat × Row)) (c c' : CV) (X : Prop) : Prop :=
  match c' with
  | .dead => X
  | .dv (.sc (.int k n)) => (match c with | .dv (.sc (.int k' n')) => chk (decide (k' = k)) (Need (n' = n) X) | _ => False)
  | .dv (.sc v) => (match c with | .dv (.sc v') => Need (v' = v) X | _ => False)
  | .dv (.sl es) => (match c with
    | .dv (.sl es') => Need (es' = es) X
    | .nil => Need ([] = es) X
    | .os p k off len => (match lookL ls p, S.L p with | none, some (.own k' es') => chk (Nat.ble 1000 p && Nat.beq k k') (Need (SlOf es' off len es) X) | _, _ => False)
    | _ => False)
  | .os p k off len => (match c with | .os p' k' off' len' => chk (Nat.beq p' p && Nat.beq k' k) (Need (off' = off ∧ len' = len) X) | .nil => Need (0 = len) X | _ => False)
  | .nil => (match c with | .nil => X | _ => False)
  | .ptr p o => (match c with | .ptr p' o' => chk (Nat.beq p' p && Nat.beq o' o) X | _ => False)
  | .ep p k i f => Need (c = .ep p k i f) X
  | .dp cs f => Need (c = .dp cs f) X
  | .sb .. => False
theorem eqC_ok {ls : List (Nat × Row)} {c c' : CV} {X : Prop} (h : eqC S ls c c' X) : cle S ls c c' ∧ X := by
  unfold eqC at h
  split at h
  · exact ⟨trivial, h⟩
  · split at h
    · obtain ⟨h1, h2, h3⟩ := chk_iff.1 h
      obtain rfl := of_decide_eq_true h1
      subst h2; exact ⟨rfl, h3⟩
    · exact h.elim
  · split at h
    · obtain ⟨h2, h3⟩ := h; subst h2; exact ⟨rfl, h3⟩
    · exact h.elim
  · split at h
    · obtain ⟨h2, h3⟩ := h; subst h2; exact ⟨.inl rfl, h3⟩
    · obtain ⟨h2, h3⟩ := h; exact ⟨.inr (.inl ⟨rfl, h2.symm⟩), h3⟩
    · split at h
      · rename_i e1 e2
        obtain ⟨h1, ⟨h2, h4⟩, h3⟩ := chk_iff.1 h
        simp only [Bool.and_eq_true] at h1
        obtain rfl := Nat.eq_of_beq_eq_true h1.2
        exact ⟨.inr (.inr ⟨_, _, _, _, _, rfl, e1, Nat.le_of_ble_eq_true h1.1, e2, h2, h4⟩), h3⟩
      · exact h.elim
    · exact h.elim
  · split at h
    · obtain ⟨h1, ⟨rfl, rfl⟩, h3⟩ := chk_iff.1 h
      simp only [Bool.and_eq_true] at h1
      obtain rfl := Nat.eq_of_beq_eq_true h1.1
      obtain rfl := Nat.eq_of_beq_eq_true h1.2
      exact ⟨.inl rfl, h3⟩
    · obtain ⟨h2, h3⟩ := h; exact ⟨.inr ⟨rfl, h2.symm⟩, h3⟩
    · exact h.elim
  · split at h
    · exact ⟨rfl, h⟩
    · exact h.elim
  · split at h
    · obtain ⟨h1, h3⟩ := chk_iff.1 h
      simp only [Bool.and_eq_true] at h1
      obtain rfl := Nat.eq_of_beq_eq_true h1.1
      obtain rfl := Nat.eq_of_beq_eq_true h1.2
      exact ⟨rfl, h3⟩
    · exact h.elim
  · obtain ⟨h2, h3⟩ := h; subst h2; exact ⟨rfl, h3⟩
  · obtain ⟨h2, h3⟩ := h; subst h2; exact ⟨rfl, h3⟩
  · exact h.elim
def refB (ls : List (Nat × Row)) (c : CV) : Bool := match c with
  | .os p _ _ _ => (lookL ls p).isSome
  | .ptr p _ => (lookL ls p).isSome
  | .ep p _ _ _ => (lookL ls p).isSome
  | .sb .. => false
  | _ => true
theorem refB_ok {ls : List (Nat × Row)} {c : CV} (h : refB ls c = true) : refC ls c := by cases c <;> first | exact h | trivial
def eqCs (S : St) (ls : List (Nat × Row)) : List CV → List CV → Prop → Prop
  | [], [], X => X
  | c :: cs, c' :: cs', X => chk (refB ls c') (eqC S ls c c' (eqCs S ls cs cs' X))
  | _, _, _ => False
theorem eqCs_ok {ls : List (Nat × Row)} : ∀ {cs cs' : List CV} {X : Prop}, eqCs S ls cs cs' X → csle S ls cs cs' ∧ refCs ls cs' ∧ X
  | [], [], _, h => ⟨trivial, trivial, h⟩
  | c :: cs, c' :: cs', X, h => by
    obtain ⟨h1, h2⟩ := chk_iff.1 h
    obtain ⟨h3, h4⟩ := eqC_ok h2
    obtain ⟨h5, h6, h7⟩ := eqCs_ok h4
    exact ⟨⟨h3, h5⟩, ⟨refB_ok h1, h6⟩, h7⟩
  | [], _ :: _, _, h => h.elim
  | _ :: _, [], _, h => h.elim
def eqS (S : St) (ls : List (Nat × Row)) (s s' : SV) (X : Prop) : Prop :=
  match s' with
  | .one .dead => X
  | .one c' => (match s with | .one c => chk (refB ls c') (eqC S ls c c' X) | _ => False)
  | .agg cs' => (match s with | .agg cs => eqCs S ls cs cs' X | _ => False)
  | .tup _ => False
theorem eqS_ok {ls : List (Nat × Row)} {s s' : SV} {X : Prop} (h : eqS S ls s s' X) : (sle S ls s s' ∧ refS ls s') ∧ X := by
  unfold eqS at h
  split at h
  · exact ⟨⟨trivial, trivial⟩, h⟩
  · rename_i c' hne
    split at h
    · obtain ⟨h1, h2⟩ := chk_iff.1 h
      obtain ⟨h3, h4⟩ := eqC_ok h2
      refine ⟨⟨?_, refB_ok h1⟩, h4⟩
      unfold sle
      split
      · trivial
      · rename_i e1 e2; injection e1 with e1; injection e2 with e2; subst e1; subst e2; exact h3
      · rename_i e1 e2; simp at e1
      · rename_i h1 h2 h3; exact absurd rfl (h2 _ _ rfl)
    · exact h.elim
  · split at h
    · obtain ⟨h1, h2, h3⟩ := eqCs_ok h
      exact ⟨⟨h1, h2⟩, h3⟩
    · exact h.elim
  · exact h.elim
def eqT (S : St) (ls : List (Nat × Row)) : List (Nat × SV) → Prop → Prop
  | [], X => X
  | (i, v) :: r, X => eqS S ls (S.T i) v (eqT S ls r X)
theorem eqT_ok {ls : List (Nat × Row)} : ∀ {ts : List (Nat × SV)} {X : Prop}, eqT S ls ts X → leT S ls ts ∧ X
  | [], _, h => ⟨trivial, h⟩
  | (i, v) :: r, X, h => by
    obtain ⟨h1, h2⟩ := eqS_ok h
    obtain ⟨h3, h4⟩ := eqT_ok h2
    exact ⟨⟨h1, h3⟩, h4⟩
def eqL (S : St) (ls : List (Nat × Row)) : List (Nat × Row) → Prop
  | [] => True
  | (p, .box cs') :: rest => (match S.L p with | some (.box cs) => eqCs S ls cs cs' (eqL S ls rest) | _ => False)
  | (p, .own k es) :: rest => (match S.L p with
    | some (.own k' es') => chk (Nat.beq k' k) (Need (es' = es) (eqL S ls rest))
    | none => chk (Nat.ble 1000 p) (Need ([] = es) (eqL S ls rest))
    | _ => False)
theorem eqL_ok {ls : List (Nat × Row)} : ∀ {rest : List (Nat × Row)}, eqL S ls rest → leL S ls rest
  | [], _ => trivial
  | (p, .box cs') :: rest, h => by
    simp only [eqL] at h; simp only [leL]
    split at h
    · rename_i e; simp only [e]
      obtain ⟨h1, h2, h3⟩ := eqCs_ok h
      exact ⟨⟨h1, h2⟩, eqL_ok h3⟩
    · exact h.elim
  | (p, .own k es) :: rest, h => by
    simp only [eqL] at h; simp only [leL]
    split at h
    · rename_i e; simp only [e]
      obtain ⟨h1, h2, h3⟩ := chk_iff.1 h
      obtain rfl := Nat.eq_of_beq_eq_true h1
      subst h2
      exact ⟨rfl, eqL_ok h3⟩
    · rename_i e; simp only [e]
      obtain ⟨h1, h2, h3⟩ := chk_iff.1 h
      exact ⟨⟨h2.symm, Nat.le_of_ble_eq_true h1⟩, eqL_ok h3⟩
    · exact h.elim
theorem LeX.of {ts : List (Nat × SV)} {ls : List (Nat × Row)} {mv : List Nat} (h : chk (S.mv.all fun p => Nat.ble 1000 p || mv.any (Nat.beq p)) (eqT S ls ts (eqL S ls ls))) : LeX S (D.mk ts ls mv) := by
  obtain ⟨hm, h⟩ := chk_iff.1 h
  refine ⟨le_mk (eqT_ok h).1 (eqL_ok (eqT_ok h).2) fun p hp => ?_⟩
  have h5 := List.all_eq_true.1 hm p hp
  simp only [Bool.or_eq_true] at h5
  rcases h5 with h5 | h5
  · exact .inr (Nat.le_of_ble_eq_true h5)
  · obtain ⟨x, hx, h6⟩ := List.any_eq_true.1 h5
    rw [Nat.eq_of_beq_eq_true h6]; exact .inl hx
end
end Go.Proofs.Ytoklfidamhigcaa.D
