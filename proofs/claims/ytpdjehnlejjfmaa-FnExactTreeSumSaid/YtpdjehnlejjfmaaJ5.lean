/- The steps of a run: a function's end; what a state says less. -/
import Derived.Test.YtpdjehnlejjfmaaProg
import Derived.KernelRfl
import Derived.Test.YtpdjehnlejjfmaaJ4
set_option linter.unusedVariables false
set_option linter.unusedSimpArgs false
namespace Go.Proofs.Ytpdjehnlejjfmaa.D
open Go.RowKit
set_option linter.unusedVariables false

section
variable {P : Program} {tb : TypeId → Option TyI} {S : St}

def resE (tb : TypeId → Option TyI) (S : St) : List ResultVar → (List SV → Prop) → Prop
 | [], K => K []
 | .tmp t :: rs, K => resE tb S rs fun vs => K (S.T t :: vs)
 | .cell t ty :: rs, K =>
  match tb ty, S.T t with
  | some i, .one c => ptrE S i c fun v => resE tb S rs fun vs => K (v :: vs)
  | _, _ => False
theorem resE_ok : ∀ {rs : List ResultVar} {K K' : List SV → Prop}, (∀ vs, K vs → K' vs) → resE tb S rs K → resD tb S rs K'
 | [], _, _, hk, h => hk _ h
 | .tmp t :: rs, K, K', hk, h => resE_ok (rs := rs) (fun vs h => hk _ h) h
 |.cell t ty :: rs, K, K', hk, h => by
  simp only [resE] at h; simp only [resD]
  split at h
  ·rename_i e1 e2; simp only [e1, e2]
   obtain ⟨cs, o, h1, h2⟩ := ptrE_ok (K' := fun v => resD tb S rs fun vs => K' (v :: vs)) (fun v h => resE_ok (fun vs h => hk _ h) h) h
   simp only [h1]
   exact h2
  ·exact h.elim
def cvNames (c : CV) : List Nat := match c with | .os p _ _ _ => [p.top] | .ptr p _ => [p] | .ep p _ _ _ => [p.top] | _ => []
def boxesNames (S : St) : Nat → List Nat
 | 0 => []
 | n + 1 => boxesNames S n ++ (boxNames S n).map Nm.top
def addNewN (xs : List Nat) (x : Nat) : List Nat := match xs.any (fun y => Nat.beq x y) with | true => xs | false => xs ++ [x]
def uniqN (xs : List Nat) : List Nat := xs.foldl addNewN []
def upTo : Nat → List Nat | 0 => [] | n + 1 => upTo n ++ [n]
theorem upTo_eq (n : Nat) : upTo n = List.range n := by
 induction n with
 | zero => rfl
 | succ n ih => simp [upTo, ih, List.range_succ]
inductive Out (X : Bool → List Nat → List (Nat × Nat) → Prop) : Prop
 | mk (nl : Bool) (keep : List Nat) (z : List (Nat × Nat)) (h : X nl keep z)
def zlook (z : List (Nat × Nat)) (i : Nat) : Option Nat := match z with | [] => none | (j, k) :: r => match Nat.beq i j with | true => some k | false => zlook r i
def zCs (nl : Bool) (z : List (Nat × Nat)) : Nat → List CV → List CV × List (Nat × Nat)
 | _, [] => ([], [])
 | i, c :: cs =>
  match c with
  |.nil => (match zlook z i with
   | some k => (.os (.v (1000000 + i)) k 0 0 :: (zCs nl z (i + 1) cs).1, (1000000 + i, k) :: (zCs nl z (i + 1) cs).2)
   | none => ((match nl with | true => .dv (.sl []) | false => .nil) :: (zCs nl z (i + 1) cs).1, (zCs nl z (i + 1) cs).2))
  | c => (c :: (zCs nl z (i + 1) cs).1, (zCs nl z (i + 1) cs).2)
theorem zCs_wk {nl : Bool} {z : List (Nat × Nat)} : ∀ (cs : List CV) (i : Nat), wkCs cs (zCs nl z i cs).1
 | [], _ => trivial
 |c :: cs, i => by
  unfold zCs
  split
  ·split
   ·exact ⟨.inr ⟨rfl, .inr ⟨_, _, rfl⟩⟩, zCs_wk cs _⟩
   ·cases nl
    ·exact ⟨.inl rfl, zCs_wk cs _⟩
    ·exact ⟨.inr ⟨rfl, .inl rfl⟩, zCs_wk cs _⟩
  ·exact ⟨.inl rfl, zCs_wk cs _⟩
def zPs (nl : Bool) (z : List (Nat × Nat)) : Nat → List (Bool × List CV) → List (Bool × List CV) × List (Nat × Nat)
 | _, [] => ([], [])
 | i, (b, cs) :: ps => ((b, (zCs nl z i cs).1) :: (zPs nl z (i + cs.length) ps).1, (zCs nl z i cs).2 ++ (zPs nl z (i + cs.length) ps).2)
theorem zPs_wk {nl : Bool} {z : List (Nat × Nat)} : ∀ (ps : List (Bool × List CV)) (i : Nat), wkPs ps (zPs nl z i ps).1
 | [], _ => trivial
 | (b, cs) :: ps, i => ⟨⟨rfl, zCs_wk cs i⟩, zPs_wk ps _⟩
def zS (nl : Bool) (z : List (Nat × Nat)) : SV → SV
 | .one c => (match (zCs nl z 0 [c]).1 with | [c'] => .one c' | _ => .one c)
 | .agg cs => .agg (zCs nl z 0 cs).1
 | .tup ps => .tup (zPs nl z 0 ps).1
 | .arr ds => .arr ds
def zZ (nl : Bool) (z : List (Nat × Nat)) : SV → List (Nat × Nat)
 | .one c => (zCs nl z 0 [c]).2
 | .agg cs => (zCs nl z 0 cs).2
 | .tup ps => (zPs nl z 0 ps).2
 | .arr _ => z
theorem zS_wk {nl : Bool} {z : List (Nat × Nat)} (sv : SV) : wkS sv (zS nl z sv) := by
 cases sv with
 | one c =>
  simp only [zS]
  have := zCs_wk (nl := nl) (z := z) [c] 0
  split
  ·rename_i c' e; rw [e] at this; exact this.1
  ·exact .inl rfl
 | agg cs => exact zCs_wk cs 0
 | tup ps => exact zPs_wk ps 0
 | arr ds => exact rfl
def emptiesE (S : St) : List (Nat × Nat) → (St → Prop) → Prop
 | [], K => K S
 | (p, k) :: zs, K => chk (fresh S p) (fN p fun p => emptiesE { S with L := upd S.L p (some (.own k [])) } zs K)
theorem emptiesE_ok : ∀ {zs : List (Nat × Nat)} {S : St} {K : St → Prop}, emptiesE S zs K → emptiesOk S zs ∧ K (S.empties zs)
 | [], _, _, h => ⟨trivial, h⟩
 |(p, k) :: zs, S, K, h => by
  obtain ⟨h1, h2⟩ := chk_iff.1 h
  obtain ⟨h3, h4⟩ := emptiesE_ok (fN_iff.1 h2)
  exact ⟨⟨fresh_iff h1, h3⟩, h4⟩
def keepNames (keep : List Nat) : SV → List Nat
 | .one c => (match keep.any (Nat.beq 0) with | true => cvNames c | false => [])
 | .agg cs => (match keep.any (Nat.beq 0) with | true => cs.foldr (fun c r => cvNames c ++ r) [] | false => [])
 | .tup ps => (ps.foldl (fun r p => (r.1 + 1, match keep.any (Nat.beq r.1) with | true => r.2 ++ p.2.foldr (fun c r => cvNames c ++ r) [] | false => r.2)) (0, [])).2
 | .arr _ => []
def argPsE (S : St) (out : List Nm) : List (Bool × List CV) → (List (Bool × List CV) → Prop) → Prop
 | [], K => K []
 | (b, cs) :: ps, K => argCsE true S out cs fun cs' => argPsE S out ps fun ps' => K ((b, cs') :: ps')
theorem argPsE_ok {out : List Nm} (hg : goodN out = true) : ∀ {ps : List (Bool × List CV)} {K K' : List (Bool × List CV) → Prop}, (∀ x, K x → K' x) → argPsE S out ps K → argPs S out ps K'
 | [], _, _, hk, h => hk _ h
 | (b, cs) :: ps, K, K', hk, h => argCsE_ok hg (fun _ h => argPsE_ok hg (fun _ h => hk _ h) h) h
def argRE (S : St) (out : List Nm) (v : SV) (K : SV → Prop) : Prop :=
 match v with
 | .one c => argCE true S out c fun c' => K (.one c')
 | .agg cs => argCsE true S out cs fun cs' => K (.agg cs')
 | .tup ps => argPsE S out ps fun ps' => K (.tup ps')
 | .arr ds => K (.arr ds)
theorem argRE_ok {out : List Nm} (hg : goodN out = true) {v : SV} {K K' : SV → Prop} (hk : ∀ x, K x → K' x) (h : argRE S out v K) : argR S out v K' := by
 cases v with
 | one c => exact argCE_ok hg (fun _ h => hk _ h) h
 | agg cs => exact argCsE_ok hg (fun _ h => hk _ h) h
 | tup ps => exact argPsE_ok hg (fun _ h => hk _ h) h
 | arr ds => exact hk _ h
def outB (out : List Nm) (p : Nat) : Bool := match idxV p out with | some _ => true | none => false
theorem outB_ok {out : List Nm} {nm : Nm} (h : outB out nm.top = true) : mapN out nm ≠ none := by
 unfold outB at h
 rw [idxV_eq] at h
 cases e : idxOf (.v nm.top) out with
 | none => rw [e] at h; simp at h
 | some i =>
  unfold mapN
  cases nm with
  | v p => simp only [Nm.top] at e; simp [e]
  | h p a b =>
   simp only [Nm.top] at e
   cases idxOf (.h p a b) out <;> simp [e]
def cleanCE (S : St) (out : List Nm) (c : CV) (X : Prop) : Prop :=
 match c with
 | .dv d => chk (flatD d) X
 | .dp _ _ => False
 | .os p _ _ _ => (match outB out p.top with | true => X | false => ownE S p fun _ es => Need (flatEs es) X)
 | _ => X
theorem cleanCE_ok {out : List Nm} {c : CV} {X : Prop} (h : cleanCE S out c X) : cleanC S out c ∧ X := by
 unfold cleanCE at h; unfold cleanC
 split at h
 ·exact chk_iff.1 h
 ·exact h.elim
 ·split at h
  ·rename_i e
   exact ⟨.inl (outB_ok e), h⟩
  ·obtain ⟨k, es, e, h⟩ := ownE_ok h
   simp only [e]; exact ⟨.inr h.1, h.2⟩
 ·rename_i h1 h2 h3
  refine ⟨?_, h⟩
  split
  ·exact absurd rfl (h1 _)
  ·exact absurd rfl (h2 _ _)
  ·exact absurd rfl (h3 _ _ _ _)
  ·trivial
def cleanCsE (S : St) (out : List Nm) : List CV → Prop → Prop
 | [], X => X
 | c :: cs, X => cleanCE S out c (cleanCsE S out cs X)
theorem cleanCsE_ok {out : List Nm} : ∀ {cs : List CV} {X : Prop}, cleanCsE S out cs X → (∀ c ∈ cs, cleanC S out c) ∧ X
 | [], _, h => ⟨by simp, h⟩
 |c :: cs, X, h => by
  obtain ⟨h1, h2⟩ := cleanCE_ok h
  obtain ⟨h3, h4⟩ := cleanCsE_ok h2
  exact ⟨fun x hx => (List.mem_cons.1 hx).elim (fun e => e ▸ h1) (h3 x), h4⟩
def cleanPsE (S : St) (out : List Nm) : List (Bool × List CV) → Prop → Prop
 | [], X => X
 | p :: ps, X => cleanCsE S out p.2 (cleanPsE S out ps X)
theorem cleanPsE_ok {out : List Nm} : ∀ {ps : List (Bool × List CV)} {X : Prop}, cleanPsE S out ps X → (∀ p ∈ ps, ∀ c ∈ p.2, cleanC S out c) ∧ X
 | [], _, h => ⟨by simp, h⟩
 |p :: ps, X, h => by
  obtain ⟨h1, h2⟩ := cleanCsE_ok h
  obtain ⟨h3, h4⟩ := cleanPsE_ok h2
  exact ⟨fun x hx => (List.mem_cons.1 hx).elim (fun e => e ▸ h1) (h3 x), h4⟩
def cleanSE (S : St) (out : List Nm) (v : SV) (X : Prop) : Prop :=
 match v with
 | .one c => cleanCE S out c X
 | .agg cs => cleanCsE S out cs X
 | .tup ps => cleanPsE S out ps X
 | .arr ds => Need (∀ d ∈ ds, flatD d = true) X
theorem cleanSE_ok {out : List Nm} {v : SV} {X : Prop} (h : cleanSE S out v X) : cleanS S out v ∧ X := by
 cases v with
 | one c => exact cleanCE_ok h
 | agg cs => exact cleanCsE_ok h
 | tup ps => exact cleanPsE_ok h
 | arr ds => exact ⟨fun d hd => h.1 d hd, h.2⟩
def cleanLE (S : St) (out : List Nm) : List Nat → Prop → Prop
 | [], X => X
 |p :: ps, X => match S.L p with
  | some (.own _ es) => Need (flatEs es) (cleanLE S out ps X)
  | some (.box cs) => cleanCsE S out cs (cleanLE S out ps X)
  | none => cleanLE S out ps X
theorem cleanLE_ok {out : List Nm} : ∀ {ps : List Nat} {X : Prop}, cleanLE S out ps X → (∀ p ∈ ps, ∀ r, S.L p = some r → cleanR S out r) ∧ X
 | [], _, h => ⟨by simp, h⟩
 |p :: ps, X, h => by
  unfold cleanLE at h
  split at h
  ·rename_i e
   obtain ⟨h1, h2⟩ := h
   obtain ⟨h3, h4⟩ := cleanLE_ok h2
   exact ⟨fun x hx r hr => (List.mem_cons.1 hx).elim (fun e' => by subst e'; rw [e] at hr; injection hr with hr; subst hr; exact h1) (fun hx => h3 x hx r hr), h4⟩
  ·rename_i e
   obtain ⟨h1, h2⟩ := cleanCsE_ok h
   obtain ⟨h3, h4⟩ := cleanLE_ok h2
   exact ⟨fun x hx r hr => (List.mem_cons.1 hx).elim (fun e' => by subst e'; rw [e] at hr; injection hr with hr; subst hr; exact h1) (fun hx => h3 x hx r hr), h4⟩
  ·rename_i e
   obtain ⟨h3, h4⟩ := cleanLE_ok h
   exact ⟨fun x hx r hr => (List.mem_cons.1 hx).elim (fun e' => by subst e'; rw [e] at hr; simp at hr) (fun hx => h3 x hx r hr), h4⟩
def cleanE (cl : Bool) (S : St) (out : List Nat) (vs : List Nm) (v : SV) (X : Prop) : Prop := match cl with | true => cleanSE S vs v (cleanLE S vs out X) | false => X
def madeB (out : List Nm) (c : CV) : Bool := match c with | .os p _ _ _ => outB out p.top || newB p.top | .ep p _ _ _ => outB out p.top | _ => true
theorem madeB_ok {out : List Nm} {c : CV} (h : madeB out c = true) : borN out c := by
 unfold madeB at h; unfold borN
 split at h
 ·simp only [Bool.or_eq_true] at h
  exact h.imp outB_ok newB_ok
 ·exact outB_ok h
 ·rename_i hne hne2
  split
  ·exact absurd rfl (hne _ _ _ _)
  ·exact absurd rfl (hne2 _ _ _ _)
  ·trivial
def madeS (out : List Nm) : SV → Bool
 | .one c => madeB out c
 | .agg cs => cs.all (madeB out)
 | .tup qs => qs.all fun q => q.2.all (madeB out)
 | .arr _ => true
theorem madeS_ok {out : List Nm} {v : SV} (h : madeS out v = true) : borS out v := by
 cases v with
 | one c => exact madeB_ok h
 | agg cs => exact fun c hc => madeB_ok (List.all_eq_true.1 h c hc)
 | tup qs => exact fun q hq c hc => madeB_ok (List.all_eq_true.1 (List.all_eq_true.1 h q hq) c hc)
 | arr ds => trivial
def madeL (S : St) (vs : List Nm) : List Nat → Bool
 | [] => true
 | p :: ps => (match S.L p with | some (.box cs) => cs.all (madeB vs) | _ => true) && madeL S vs ps
theorem madeL_ok {vs : List Nm} : ∀ {ps : List Nat}, madeL S vs ps = true → ∀ p ∈ ps, ∀ cs, S.L p = some (.box cs) → ∀ c ∈ cs, borN vs c
 | [], _, p, hp => by simp at hp
 |q :: ps, h, p, hp => by
  simp only [madeL, Bool.and_eq_true] at h
  rcases List.mem_cons.1 hp with rfl | hp
  ·intro cs hcs c hc
   rw [hcs] at h
   exact madeB_ok (List.all_eq_true.1 h.1 c hc)
  ·exact madeL_ok h.2 p hp
def finE (S : St) (sv : SV) (n : Nat) (mv : List Nat) (cl : Bool) (Post : SV → List Row → Prop) : Prop :=
 Out fun nl keep z => emptiesE S (zZ nl z sv) fun S => fS (zS nl z sv) fun sv =>
  fNs (upTo n ++ (uniqN (keepNames keep sv ++ boxesNames S n)).filter fun p => Nat.ble n p)
   fun out => fNms (out.map .v) fun vs => chk (nodupB out && (S.mv.all fun p => Nat.ble n p || mv.any (Nat.beq p)) && goodN vs && (out.drop n).all newB && madeS vs sv && madeL S vs out)
    (cleanE cl S out vs sv (argRE S vs sv fun res => rowsE true S vs vs fun Lo => fS res fun res => Done (Post res Lo)))
theorem finE_ok {sv : SV} {n : Nat} {mv : List Nat} {cl : Bool} {Post : SV → List Row → Prop} (h : finE S sv n mv cl Post) : finD S sv n mv cl Post := by
 obtain ⟨nl, keep, z, h⟩ := h
 obtain ⟨hz, h⟩ := emptiesE_ok h
 have h := fNms_iff.1 (fNs_iff.1 (fS_iff.1 h))
 generalize hSe : S.empties (zZ nl z sv) = Se at h
 generalize hout : upTo n ++ (uniqN (keepNames keep (zS nl z sv) ++ boxesNames Se n)).filter (fun p => Nat.ble n p) = out at h
 obtain ⟨h1, h2⟩ := chk_iff.1 h
 simp only [Bool.and_eq_true] at h1
 obtain ⟨⟨⟨⟨⟨h1, hm⟩, hg⟩, hnew⟩, hb1⟩, hb2⟩ := h1
 have hm : ∀ p ∈ Se.mv, p < n → p ∈ mv := fun p hp hlt => by
  have h5 := List.all_eq_true.1 hm p hp
  simp only [Bool.or_eq_true] at h5
  rcases h5 with h5 | h5
  ·have := Nat.le_of_ble_eq_true h5; omega
  ·obtain ⟨x, hx, h6⟩ := List.any_eq_true.1 h5
   rw [Nat.eq_of_beq_eq_true h6]; exact hx
 have h3 : (cl = true → cleanS Se (out.map .v) (zS nl z sv) ∧ ∀ p ∈ out, ∀ r, Se.L p = some r → cleanR Se (out.map .v) r) ∧ argRE Se (out.map .v) (zS nl z sv) fun res => rowsE true Se (out.map .v) (out.map .v) fun Lo => fS res fun res => Done (Post res Lo) := by
  cases cl with
  | false => exact ⟨fun h => by simp at h, h2⟩
  | true =>
   obtain ⟨g1, g2⟩ := cleanSE_ok h2
   obtain ⟨g3, g4⟩ := cleanLE_ok g2
   exact ⟨fun _ => ⟨g1, g3⟩, g4⟩
 refine ⟨zZ nl z sv, zS nl z sv, out, ⟨hz, zS_wk sv, by rw [hSe]; exact hm⟩, ⟨nodupB_ok h1, by rw [← hout, upTo_eq, List.take_append_of_le_length (by simp)]; simp, fun p hp => newB_ok (List.all_eq_true.1 hnew p hp)⟩, ?_⟩
 rw [hSe]
 exact ⟨h3.1, ⟨madeS_ok hb1, madeL_ok hb2⟩, argRE_ok hg (fun _ h => rowsE_ok hg (fun _ h => (fS_iff.1 h).ok) h) h3.2⟩
def joinE (vs : List SV) (K : SV → Prop) : Prop :=
 match vs with
 | [v] => K v
 | [] => K (.tup [])
 | u :: v :: vs => match pairsS (u :: v :: vs) with | some ps => K (.tup ps) | none => False
theorem joinE_ok {vs : List SV} {K K' : SV → Prop} (hk : ∀ v, K v → K' v) (h : joinE vs K) : joinD vs K' := by
 unfold joinE at h; unfold joinD
 split at h
 ·exact hk _ h
 ·simp only [pairsS]; exact hk _ h
 ·split at h
  ·rename_i e; simp only [e]; exact hk _ h
  ·exact h.elim
def retE (tb : TypeId → Option TyI) (rs : List ResultVar) (n : Nat) (mv : List Nat) (cl : Bool) (Post : SV → List Row → Prop) : Exit → St → Prop
 | .normal, S => resE tb S rs fun vs => joinE vs fun sv => finE S sv n mv cl Post
 | .ret, S => resE tb S rs fun vs => joinE vs fun sv => finE S sv n mv cl Post
 | _, _ => False
theorem retE_ok {rs : List ResultVar} {n : Nat} {mv : List Nat} {cl : Bool} {Post : SV → List Row → Prop} : ∀ e S, retE tb rs n mv cl Post e S → retD tb rs n mv cl Post e S := by
 intro e S h
 cases e <;> first
  | exact h.elim
  | exact resE_ok (fun vs h => joinE_ok (fun v h => finE_ok h) h) h

def argT (args : List SV) (t : Nat) : SV := match args[t]? with | some v => v | none => .one .dead
theorem CallM.ofE (T : Tab P) {f : FuncId} {fn : Func} {c : Code} {args : List SV} {Li : List Row} {mv : List Nat} {cl : Bool} {Post : SV → List Row → Prop} (pl : Nat → Option PS) (hf : P.funcs[f]? = some fn) (hname : (fn.name == "runtime.NumGoroutine") = false) (hb : fn.body = some c)
  (hok : slotsOk fn.ntmps c = true) (hp : plansOk T.tb pl c = true) (hN : args.length ≤ fn.ntmps) (h : wpE P T.tb pl c ⟨argT args, Lof Li, []⟩ (retE T.tb fn.results.toList Li.length mv cl Post)) : CallM P f args Li mv cl Post := by
 refine CallM.of_body T hf hname hb hok hN ?_
 have := wpE_ok c _ _ _ hp retE_ok h
 have e : argT args = fun t => (args[t]?).getD (.one .dead) := by
  funext t; unfold argT; cases args[t]? <;> rfl
 rwa [e] at this

/-! What a state says less: shown cell by cell. -/
def eqNm (p' p : Nm) (X : Prop) : Prop :=
 match p', p with
 | .v p', .v p => chk (Nat.beq p' p) X
 | .h p' a' b', .h p a b => chk (Nat.beq p' p) (Need (a' = a ∧ b' = b) X)
 | _, _ => False
theorem eqNm_ok {p' p : Nm} {X : Prop} (h : eqNm p' p X) : p' = p ∧ X := by
 unfold eqNm at h
 split at h
 ·obtain ⟨h1, h2⟩ := chk_iff.1 h
  rw [Nat.eq_of_beq_eq_true h1]; exact ⟨rfl, h2⟩
 ·obtain ⟨h1, ⟨h2, h4⟩, h3⟩ := chk_iff.1 h
  rw [Nat.eq_of_beq_eq_true h1, h2, h4]; exact ⟨rfl, h3⟩
 ·exact h.elim
def eqC (S : St) (ls : List (Nat × Row)) (c c' : CV) (X : Prop) : Prop :=
 match c' with
 | .dead => X
 | .dv (.sc (.int k n)) => (match c with | .dv (.sc (.int k' n')) => chk (decide (k' = k)) (Need (n' = n) X) | _ => False)
 | .dv (.sc v) => (match c with | .dv (.sc v') => Need (v' = v) X | _ => False)
 |.dv (.sl es) => (match c with
  | .dv (.sl es') => Need (es' = es) X
  | .nil => Need ([] = es) X
  | .os p k off len => (match lookL ls p.top with | none => ownE S p fun k' es' => chk (newB p.top && Nat.beq k k') (Need (SlF es' off len es) X) | some _ => False)
  | _ => False)
 | .dv _ => False
 | .os p k off len => (match c with | .os p' k' off' len' => chk (Nat.beq k' k) (eqNm p' p (Need (off' = off ∧ len' = len) X)) | .nil => Need (0 = len) X | _ => False)
 | .nil => (match c with | .nil => X | _ => False)
 | .ptr p o => (match c with | .ptr p' o' => chk (Nat.beq p' p && Nat.beq o' o) X | _ => False)
 | .ep p k i f => Need (c = .ep p k i f) X
 | .dp cs f => Need (c = .dp cs f) X
 | .sb .. => False
theorem eqC_ok {ls : List (Nat × Row)} {c c' : CV} {X : Prop} (h : eqC S ls c c' X) : cle S ls c c' ∧ X := by
 unfold eqC at h
 split at h
 ·exact ⟨trivial, h⟩
 ·split at h
  ·obtain ⟨h1, h2, h3⟩ := chk_iff.1 h
   obtain rfl := of_decide_eq_true h1
   subst h2; exact ⟨rfl, h3⟩
  ·exact h.elim
 ·split at h
  ·obtain ⟨h2, h3⟩ := h; subst h2; exact ⟨rfl, h3⟩
  ·exact h.elim
 ·split at h
  ·obtain ⟨h2, h3⟩ := h; subst h2; exact ⟨.inl rfl, h3⟩
  ·obtain ⟨h2, h3⟩ := h; exact ⟨.inr (.inl ⟨rfl, h2.symm⟩), h3⟩
  ·split at h
   ·rename_i e1
    obtain ⟨k', es', e2, h⟩ := ownE_ok h
    obtain ⟨h1, ⟨h2, h4⟩, h3⟩ := chk_iff.1 h
    simp only [Bool.and_eq_true] at h1
    obtain rfl := Nat.eq_of_beq_eq_true h1.2
    exact ⟨.inr (.inr ⟨_, _, _, _, _, rfl, e1, newB_ok h1.1, e2, h2, h4⟩), h3⟩
   ·exact h.elim
  ·exact h.elim
 ·exact h.elim
 ·split at h
  ·obtain ⟨h1, h⟩ := chk_iff.1 h
   obtain ⟨rfl, ⟨rfl, rfl⟩, h3⟩ := eqNm_ok h
   obtain rfl := Nat.eq_of_beq_eq_true h1
   exact ⟨.inl rfl, h3⟩
  ·obtain ⟨h2, h3⟩ := h; exact ⟨.inr ⟨rfl, h2.symm⟩, h3⟩
  ·exact h.elim
 ·split at h
  ·exact ⟨rfl, h⟩
  ·exact h.elim
 ·split at h
  ·obtain ⟨h1, h3⟩ := chk_iff.1 h
   simp only [Bool.and_eq_true] at h1
   obtain rfl := Nat.eq_of_beq_eq_true h1.1
   obtain rfl := Nat.eq_of_beq_eq_true h1.2
   exact ⟨rfl, h3⟩
  ·exact h.elim
 ·obtain ⟨h2, h3⟩ := h; subst h2; exact ⟨rfl, h3⟩
 ·obtain ⟨h2, h3⟩ := h; subst h2; exact ⟨rfl, h3⟩
 ·exact h.elim
def refB (ls : List (Nat × Row)) (c : CV) : Bool := match c with
 | .os p _ _ _ => (lookL ls p.top).isSome
 | .ptr p _ => (lookL ls p).isSome
 | .ep p _ _ _ => (lookL ls p.top).isSome
 | .sb .. => false
 | _ => true
theorem refB_ok {ls : List (Nat × Row)} {c : CV} (h : refB ls c = true) : refC ls c := by cases c <;> first | exact h | trivial
def eqCs (S : St) (ls : List (Nat × Row)) : List CV → List CV → Prop → Prop
 | [], [], X => X
 | c :: cs, c' :: cs', X => chk (refB ls c') (eqC S ls c c' (eqCs S ls cs cs' X))
 | _, _, _ => False
theorem eqCs_ok {ls : List (Nat × Row)} : ∀ {cs cs' : List CV} {X : Prop}, eqCs S ls cs cs' X → csle S ls cs cs' ∧ refCs ls cs' ∧ X
 | [], [], _, h => ⟨trivial, trivial, h⟩
 |c :: cs, c' :: cs', X, h => by
  obtain ⟨h1, h2⟩ := chk_iff.1 h
  obtain ⟨h3, h4⟩ := eqC_ok h2
  obtain ⟨h5, h6, h7⟩ := eqCs_ok h4
  exact ⟨⟨h3, h5⟩, ⟨refB_ok h1, h6⟩, h7⟩
 | [], _ :: _, _, h => h.elim
 | _ :: _, [], _, h => h.elim
def eqS (S : St) (ls : List (Nat × Row)) (s s' : SV) (X : Prop) : Prop :=
 match s' with
 | .one .dead => X
 | .one c' => (match s with | .one c => chk (refB ls c') (eqC S ls c c' X) | _ => False)
 | .agg cs' => (match s with | .agg cs => eqCs S ls cs cs' X | _ => False)
 | .arr ds' => (match s with | .arr ds => Need (ds = ds') X | _ => False)
 | .tup _ => False
theorem eqS_ok {ls : List (Nat × Row)} {s s' : SV} {X : Prop} (h : eqS S ls s s' X) : (sle S ls s s' ∧ refS ls s') ∧ X := by
 unfold eqS at h
 split at h
 ·exact ⟨⟨trivial, trivial⟩, h⟩
 ·rename_i c' hne
  split at h
  ·obtain ⟨h1, h2⟩ := chk_iff.1 h
   obtain ⟨h3, h4⟩ := eqC_ok h2
   refine ⟨⟨?_, refB_ok h1⟩, h4⟩
   unfold sle
   split
   ·trivial
   ·rename_i e1 e2; injection e1 with e1; injection e2 with e2; subst e1; subst e2; exact h3
   ·rename_i e1 e2; simp at e1
   ·rename_i e1 e2; simp at e1
   ·rename_i h1 h2 h3 h4; exact absurd rfl (h2 _ _ rfl)
  ·exact h.elim
 ·split at h
  ·obtain ⟨h1, h2, h3⟩ := eqCs_ok h
   exact ⟨⟨h1, h2⟩, h3⟩
  ·exact h.elim
 ·split at h
  ·exact ⟨⟨h.1, trivial⟩, h.2⟩
  ·exact h.elim
 ·exact h.elim
def eqT (S : St) (ls : List (Nat × Row)) : List (Nat × SV) → Prop → Prop
 | [], X => X
 | (i, v) :: r, X => eqS S ls (S.T i) v (eqT S ls r X)
theorem eqT_ok {ls : List (Nat × Row)} : ∀ {ts : List (Nat × SV)} {X : Prop}, eqT S ls ts X → leT S ls ts ∧ X
 | [], _, h => ⟨trivial, h⟩
 |(i, v) :: r, X, h => by
  obtain ⟨h1, h2⟩ := eqS_ok h
  obtain ⟨h3, h4⟩ := eqT_ok h2
  exact ⟨⟨h1, h3⟩, h4⟩
def eqL (S : St) (ls : List (Nat × Row)) : List (Nat × Row) → Prop
 | [] => True
 | (p, .box cs') :: rest => (match S.L p with | some (.box cs) => eqCs S ls cs cs' (eqL S ls rest) | _ => False)
 |(p, .own k es) :: rest => (match S.L p with
  | some (.own k' es') => chk (Nat.beq k' k) (Need (es' = es) (eqL S ls rest))
  | none => chk (Nat.ble 1000 p) (Need ([] = es) (eqL S ls rest))
  | _ => False)
theorem eqL_ok {ls : List (Nat × Row)} : ∀ {rest : List (Nat × Row)}, eqL S ls rest → leL S ls rest
 | [], _ => trivial
 |(p, .box cs') :: rest, h => by
  simp only [eqL] at h; simp only [leL]
  split at h
  ·rename_i e; simp only [e]
   obtain ⟨h1, h2, h3⟩ := eqCs_ok h
   exact ⟨⟨h1, h2⟩, eqL_ok h3⟩
  ·exact h.elim
 |(p, .own k es) :: rest, h => by
  simp only [eqL] at h; simp only [leL]
  split at h
  ·rename_i e; simp only [e]
   obtain ⟨h1, h2, h3⟩ := chk_iff.1 h
   obtain rfl := Nat.eq_of_beq_eq_true h1
   subst h2
   exact ⟨rfl, eqL_ok h3⟩
  ·rename_i e; simp only [e]
   obtain ⟨h1, h2, h3⟩ := chk_iff.1 h
   exact ⟨⟨h2.symm, Nat.le_of_ble_eq_true h1⟩, eqL_ok h3⟩
  ·exact h.elim
theorem LeX.of {ts : List (Nat × SV)} {ls : List (Nat × Row)} {mv : List Nat} (h : chk (S.mv.all fun p => Nat.ble 1000 p || mv.any (Nat.beq p)) (eqT S ls ts (eqL S ls ls))) : LeX S (D.mk ts ls mv) := by
 obtain ⟨hm, h⟩ := chk_iff.1 h
 refine ⟨le_mk (eqT_ok h).1 (eqL_ok (eqT_ok h).2) fun p hp => ?_⟩
 have h5 := List.all_eq_true.1 hm p hp
 simp only [Bool.or_eq_true] at h5
 rcases h5 with h5 | h5
 ·exact .inr (Nat.le_of_ble_eq_true h5)
 ·obtain ⟨x, hx, h6⟩ := List.any_eq_true.1 h5
  rw [Nat.eq_of_beq_eq_true h6]; exact .inl hx
end
end Go.Proofs.Ytpdjehnlejjfmaa.D
/- Words: numbers, bytes and lists as the runs show them. -/
namespace Go.Proofs.Ytpdjehnlejjfmaa.D
open Go.RowKit
set_option linter.unusedVariables false
set_option linter.unusedSimpArgs false

abbrev byD (b : UInt8) : List DV := [.sc (.int .u8 b.toNat)]
abbrev inD (x : Int) : List DV := [.sc (.int .i64 x)]
abbrev stD (s : ByteArray) : List DV := [.sc (.string s)]
abbrev boD (b : Bool) : List DV := [.sc (.bool b)]
abbrev vY (l : List UInt8) : SV := .one (.dv (.sl (l.map byD)))
abbrev vN (l : List Int) : SV := .one (.dv (.sl (l.map inD)))
abbrev cI (n : Int) : CV := .dv (.sc (.int .i64 n))
abbrev cB (b : Bool) : CV := .dv (.sc (.bool b))
abbrev cS (s : ByteArray) : CV := .dv (.sc (.string s))
abbrev cN (l : List Int) : CV := .dv (.sl (l.map inD))
theorem Need.ways {P : Program} {tb : TypeId → Option TyI} {base : Nat} {ops : List Oper} {a b : PS} {S : St} {K : St → Prop} (h1 : planE P tb base ops a S K) (h2 : planE P tb base ops b S K) : Need (planE P tb base ops a S K) (planE P tb base ops b S K) := ⟨h1, h2⟩
abbrev CallN (P : Program) (f : FuncId) (args : List SV) (Li : List Row) (mv : List Nat) (res : SV) (Lo : List Row) : Prop := CallM P f args Li mv false fun r l => r = res ∧ l = Lo
theorem CallW.k {P : Program} {f : FuncId} {args : List SV} {Li Lo : List Row} {mv : List Nat} {res : SV} {K : List Nat → SV → List Row → Prop} (h : CallN P f args Li mv res Lo) (k : K mv res Lo) : CallW P f args Li false K :=
 CallW.n h fun _ _ h => by obtain ⟨rfl, rfl⟩ := h; exact k
theorem wdiv {a b : Int} (h0 : 0 ≤ a) (hb : 0 < b) (h : a ≤ 9223372036854775807) : IntKind.i64.wrap (a.tdiv b) = a / b := by
 rw [Int.tdiv_eq_ediv_of_nonneg h0]
 have h1 : 0 ≤ a / b := Int.ediv_nonneg h0 (by omega)
 have h2 : a / b ≤ a := Int.ediv_le_self b h0
 exact wid (by omega) (by omega)
theorem tmodn {a b : Int} (h0 : 0 ≤ a) : a.tmod b = a % b := Int.tmod_eq_emod_of_nonneg h0
theorem shr8 (a : Int) : a.fdiv (2 ^ (min (8 : Int).toNat (IntKind.i64).bits)) = a / 256 := Int.fdiv_eq_ediv_of_nonneg _ (by decide)
theorem shr16 (a : Int) : a.fdiv (2 ^ (min (16 : Int).toNat (IntKind.i64).bits)) = a / 65536 := Int.fdiv_eq_ediv_of_nonneg _ (by decide)
theorem shr24 (a : Int) : a.fdiv (2 ^ (min (24 : Int).toNat (IntKind.i64).bits)) = a / 16777216 := Int.fdiv_eq_ediv_of_nonneg _ (by decide)
theorem shr32 (a : Int) : a.fdiv (2 ^ (min (32 : Int).toNat (IntKind.i64).bits)) = a / 4294967296 := Int.fdiv_eq_ediv_of_nonneg _ (by decide)
theorem wu8 (n : Int) : IntKind.u8.wrap n = n % 256 := by simp [IntKind.wrap, IntKind.bits, IntKind.signed]
theorem wu32 (n : Int) : IntKind.u32.wrap n = n % 4294967296 := by simp [IntKind.wrap, IntKind.bits, IntKind.signed]
theorem wu64 (n : Int) : IntKind.u64.wrap n = n % 18446744073709551616 := by simp [IntKind.wrap, IntKind.bits, IntKind.signed]
theorem byLt (b : UInt8) : (b.toNat : Int) < 256 := by have := b.toNat_lt; omega
theorem wby (b : UInt8) : IntKind.i64.wrap (b.toNat : Int) = b.toNat := wid (by omega) (by have := byLt b; omega)
theorem wby32 (b : UInt8) : IntKind.u32.wrap (b.toNat : Int) = b.toNat := by have := byLt b; rw [wu32]; omega
theorem wby64 (b : UInt8) : IntKind.u64.wrap (b.toNat : Int) = b.toNat := by have := byLt b; rw [wu64]; omega
abbrev bs (t : List UInt8) : ByteArray := ⟨t.toArray⟩
@[simp] theorem size_bs (t : List UInt8) : (ByteArray.mk t.toArray).size = t.length := by simp [ByteArray.size]
theorem bs_list (t : List UInt8) : (ByteArray.mk t.toArray).toList = t := by rw [ByteArray.toList_eq]
theorem bs_beq (a b : List UInt8) : ((ByteArray.mk a.toArray).toList == (ByteArray.mk b.toArray).toList) = decide (a = b) := by
 rw [bs_list, bs_list]; by_cases h : a = b <;> simp [h]
theorem bs_less (a b : List UInt8) : Op.bytesLess (ByteArray.mk a.toArray).toList (ByteArray.mk b.toArray).toList = Op.bytesLess a b := by rw [bs_list, bs_list]
theorem bs_leq (a b : List UInt8) : (Op.bytesLess (ByteArray.mk a.toArray).toList (ByteArray.mk b.toArray).toList || (ByteArray.mk a.toArray).toList == (ByteArray.mk b.toArray).toList) = (Op.bytesLess a b || decide (a = b)) := by rw [bs_less, bs_beq]
theorem bs_app (a b : List UInt8) : ByteArray.mk a.toArray ++ ByteArray.mk b.toArray = bs (a ++ b) := by
 apply ByteArray.ext; simp [ByteArray.data_append]
theorem bs_get (t : List UInt8) (i : Nat) (h : i < t.length) : 0 ≤ (i : Int) ∧ (ByteArray.mk t.toArray)[(i : Int).toNat]? = some t[i] := by
 refine ⟨by omega, ?_⟩
 have h1 : (i : Int).toNat = i := by omega
 rw [h1, getElem?_pos _ _ (by simpa using h)]
 rfl
theorem bs_int (t : List UInt8) (n : Int) (h0 : 0 ≤ n) (h : n < t.length) : 0 ≤ n ∧ (ByteArray.mk t.toArray)[n.toNat]? = some (t[n.toNat]'(by omega)) := by
 refine ⟨h0, ?_⟩
 rw [getElem?_pos _ _ (by simp; omega)]
 rfl
theorem bs_extract (t : List UInt8) (l h : Nat) : (ByteArray.mk t.toArray).extract l h = bs ((t.take h).drop l) := by
 apply ByteArray.ext
 rw [ByteArray.data_extract]
 show t.toArray.extract l h = _
 rw [List.extract_toArray, List.drop_take]
theorem bs_extract0 (t : List UInt8) (h : Nat) : (ByteArray.mk t.toArray).extract 0 h = bs (t.take h) := by rw [bs_extract]; rfl
theorem bs_extractN (t : List UInt8) (l : Nat) : (ByteArray.mk t.toArray).extract l t.length = bs (t.drop l) := by rw [bs_extract, List.take_length]
theorem sl_map {α : Type} (f : α → List DV) (l : List α) (h m : Nat) : ((l.map f).take h).drop m = ((l.take h).drop m).map f := by simp [List.map_take, List.map_drop]
theorem sl_map0 {α : Type} (f : α → List DV) (l : List α) (h : Nat) : ((l.map f).take h).drop 0 = (l.take h).map f := by simp [List.map_take]
theorem sl_mapN {α : Type} (f : α → List DV) (l : List α) (m : Nat) : ((l.map f).take l.length).drop m = (l.drop m).map f := by simp [List.map_drop, List.take_of_length_le]
theorem bnd_sub {a k y : Nat} (h : (@OfNat.ofNat Int k instOfNat) ≤ (a : Int)) (h2 : a ≤ y) : ((a : Int) - (@OfNat.ofNat Int k instOfNat)) = ((a - k : Nat) : Int) ∧ a - k ≤ y := by
 have h : ((k : Nat) : Int) ≤ a := h
 refine ⟨?_, by omega⟩
 show (a : Int) - ((k : Nat) : Int) = _
 omega
theorem bnd_add {a k y : Nat} (h : a + k ≤ y) : ((a : Int) + (k : Int)) = ((a + k : Nat) : Int) ∧ a + k ≤ y := ⟨by omega, h⟩
theorem bnd_subN {a k y : Nat} (h : k ≤ a) (h2 : a - k ≤ y) : ((a : Int) - (k : Int)) = ((a - k : Nat) : Int) ∧ a - k ≤ y := ⟨by omega, h2⟩
theorem bnd_id {a y : Nat} (h : a ≤ y) : (a : Int) = (a : Int) ∧ a ≤ y := ⟨rfl, h⟩
theorem bnd_int {n : Int} {y : Nat} (h0 : 0 ≤ n) (h : n ≤ y) : n = (n.toNat : Int) ∧ n.toNat ≤ y := ⟨by omega, by omega⟩
def u8 (n : Int) : UInt8 := UInt8.ofNat (n % 256).toNat
theorem u8_val (n : Int) : ((u8 n).toNat : Int) = n % 256 := by
 simp only [u8, UInt8.toNat_ofNat']
 have := Int.emod_nonneg n (show (256 : Int) ≠ 0 by omega)
 have := Int.emod_lt_of_pos n (show (0 : Int) < 256 by omega)
 omega
theorem wbyte (n : Int) : IntKind.u8.wrap n = ((u8 n).toNat : Int) := by rw [wu8, u8_val]

theorem bv_xor (n : Nat) {a b : Nat} (ha : a < 2 ^ n) (hb : b < 2 ^ n) : (BitVec.ofInt n (a : Int) ^^^ BitVec.ofInt n (b : Int)).toNat = a ^^^ b := by
 rw [BitVec.toNat_xor, BitVec.ofInt_natCast, BitVec.ofInt_natCast, BitVec.toNat_ofNat, BitVec.toNat_ofNat, Nat.mod_eq_of_lt ha, Nat.mod_eq_of_lt hb]
theorem bv_and (n : Nat) {a b : Nat} (ha : a < 2 ^ n) (hb : b < 2 ^ n) : (BitVec.ofInt n (a : Int) &&& BitVec.ofInt n (b : Int)).toNat = a &&& b := by
 rw [BitVec.toNat_and, BitVec.ofInt_natCast, BitVec.ofInt_natCast, BitVec.toNat_ofNat, BitVec.toNat_ofNat, Nat.mod_eq_of_lt ha, Nat.mod_eq_of_lt hb]
theorem bv_or (n : Nat) {a b : Nat} (ha : a < 2 ^ n) (hb : b < 2 ^ n) : (BitVec.ofInt n (a : Int) ||| BitVec.ofInt n (b : Int)).toNat = a ||| b := by
 rw [BitVec.toNat_or, BitVec.ofInt_natCast, BitVec.ofInt_natCast, BitVec.toNat_ofNat, BitVec.toNat_ofNat, Nat.mod_eq_of_lt ha, Nat.mod_eq_of_lt hb]
theorem xor_i64 {a b : Nat} (ha : a < 9223372036854775808) (hb : b < 9223372036854775808) : bits .xor .i64 (a : Int) (b : Int) = ((a ^^^ b : Nat) : Int) := by
 have hx : a ^^^ b < 2 ^ 63 := Nat.xor_lt_two_pow (by simpa using ha) (by simpa using hb)
 show IntKind.i64.wrap (((BitVec.ofInt 64 (a : Int) ^^^ BitVec.ofInt 64 (b : Int)).toNat : Nat) : Int) = _
 rw [bv_xor 64 (by omega) (by omega)]
 exact wid (by omega) (by omega)
theorem and_i64 {a b : Nat} (ha : a < 9223372036854775808) (hb : b < 9223372036854775808) : bits .and .i64 (a : Int) (b : Int) = ((a &&& b : Nat) : Int) := by
 have hx : a &&& b < 2 ^ 63 := Nat.and_lt_two_pow _ (by simpa using hb)
 show IntKind.i64.wrap (((BitVec.ofInt 64 (a : Int) &&& BitVec.ofInt 64 (b : Int)).toNat : Nat) : Int) = _
 rw [bv_and 64 (by omega) (by omega)]
 exact wid (by omega) (by omega)
theorem xor_u32 {a b : Nat} (ha : a < 4294967296) (hb : b < 4294967296) : bits .xor .u32 (a : Int) (b : Int) = ((a ^^^ b : Nat) : Int) := by
 have hx : a ^^^ b < 2 ^ 32 := Nat.xor_lt_two_pow (by simpa using ha) (by simpa using hb)
 show IntKind.u32.wrap (((BitVec.ofInt 32 (a : Int) ^^^ BitVec.ofInt 32 (b : Int)).toNat : Nat) : Int) = _
 rw [bv_xor 32 (by omega) (by omega), wu32]
 omega
theorem xor_u8 (a b : UInt8) : bits .xor .u8 (a.toNat : Int) (b.toNat : Int) = ((a ^^^ b).toNat : Int) := by
 have ha := a.toNat_lt
 have hb := b.toNat_lt
 have hx : a.toNat ^^^ b.toNat < 2 ^ 8 := Nat.xor_lt_two_pow (by simpa using ha) (by simpa using hb)
 show IntKind.u8.wrap (((BitVec.ofInt 8 (a.toNat : Int) ^^^ BitVec.ofInt 8 (b.toNat : Int)).toNat : Nat) : Int) = _
 rw [bv_xor 8 (by omega) (by omega), wu8, UInt8.toNat_xor]
 omega

theorem natlit (n : Nat) : (@OfNat.ofNat Int n instOfNat) = (n : Int) := rfl
theorem rep_by (m : Nat) : List.replicate m (zerosD [.zi .u8]) = (List.replicate m (0 : UInt8)).map byD := by rw [List.map_replicate]; rfl
theorem rep_in (m : Nat) : List.replicate m (zerosD [.zi .i64]) = (List.replicate m (0 : Int)).map inD := by rw [List.map_replicate]; rfl
theorem rep_bo (m : Nat) : List.replicate m (zerosD [.zb]) = (List.replicate m false).map boD := by rw [List.map_replicate]; rfl
theorem rep_st (m : Nat) : List.replicate m (zerosD [.zs]) = (List.replicate m (bs [])).map stD := by rw [List.map_replicate]; rfl
theorem flat_by (l : List UInt8) : flatEs (l.map byD) := fun e he d hd => by obtain ⟨b, _, rfl⟩ := List.mem_map.1 he; simp at hd; subst hd; rfl
theorem flat_in (l : List Int) : flatEs (l.map inD) := fun e he d hd => by obtain ⟨b, _, rfl⟩ := List.mem_map.1 he; simp at hd; subst hd; rfl
theorem flat_st (l : List ByteArray) : flatEs (l.map stD) := fun e he d hd => by obtain ⟨b, _, rfl⟩ := List.mem_map.1 he; simp at hd; subst hd; rfl
theorem flat_bo (l : List Bool) : flatEs (l.map boD) := fun e he d hd => by obtain ⟨b, _, rfl⟩ := List.mem_map.1 he; simp at hd; subst hd; rfl
theorem flat_cl {es : List (List DV)} (h : (es.all fun e => e.all flatD) = true) : flatEs es := fun e he d hd => List.all_eq_true.1 (List.all_eq_true.1 h e he) d hd
theorem u8_mod (n : Int) : u8 (n % 256) = u8 n := by simp [u8]
theorem flat_app {a b : List (List DV)} (ha : flatEs a) (hb : flatEs b) : flatEs (a ++ b) := fun e he => (List.mem_append.1 he).elim (ha e) (hb e)
theorem map_app {α : Type} (f : α → List DV) (a b : List α) : a.map f ++ b.map f = (a ++ b).map f := (List.map_append ..).symm
theorem map_snoc {α : Type} (f : α → List DV) (a : List α) (x : α) : a.map f ++ [f x] = (a ++ [x]).map f := by simp
attribute [simp] chunks
theorem set_byN (l : List UInt8) (n : Nat) (c : DV) (b : UInt8) : (l.map byD).set (addN 0 (n : Int).toNat) (splice [c] 0 [.sc (.int .u8 b.toNat)]) = (l.set n b).map byD := by
 rw [addN_eq, List.map_set, show 0 + (n : Int).toNat = n by omega]; rfl
theorem set_byI (l : List UInt8) (n : Int) (c : DV) (b : UInt8) : (l.map byD).set (addN 0 n.toNat) (splice [c] 0 [.sc (.int .u8 b.toNat)]) = (l.set n.toNat b).map byD := by
 rw [addN_eq, List.map_set, Nat.zero_add]; rfl
theorem set_inN (l : List Int) (n : Nat) (c : DV) (b : Int) : (l.map inD).set (addN 0 (n : Int).toNat) (splice [c] 0 [.sc (.int .i64 b)]) = (l.set n b).map inD := by
 rw [addN_eq, List.map_set, show 0 + (n : Int).toNat = n by omega]; rfl
theorem set_inI (l : List Int) (n : Int) (c : DV) (b : Int) : (l.map inD).set (addN 0 n.toNat) (splice [c] 0 [.sc (.int .i64 b)]) = (l.set n.toNat b).map inD := by
 rw [addN_eq, List.map_set, Nat.zero_add]; rfl
theorem set_stN (l : List ByteArray) (n : Nat) (c : DV) (b : ByteArray) : (l.map stD).set (addN 0 (n : Int).toNat) (splice [c] 0 [.sc (.string b)]) = (l.set n b).map stD := by
 rw [addN_eq, List.map_set, show 0 + (n : Int).toNat = n by omega]; rfl
theorem set_boN (l : List Bool) (n : Nat) (c : DV) (b : Bool) : (l.map boD).set (addN 0 (n : Int).toNat) (splice [c] 0 [.sc (.bool b)]) = (l.set n b).map boD := by
 rw [addN_eq, List.map_set, show 0 + (n : Int).toNat = n by omega]; rfl
theorem set_boI (l : List Bool) (n : Int) (c : DV) (b : Bool) : (l.map boD).set (addN 0 n.toNat) (splice [c] 0 [.sc (.bool b)]) = (l.set n.toNat b).map boD := by
 rw [addN_eq, List.map_set, Nat.zero_add]; rfl
theorem get_mapN {α : Type} (f : α → List DV) (l : List α) (n : Nat) (h : n < l.length) : (l.map f)[addN 0 (n : Int).toNat]? = some (f l[n]) := by
 rw [addN_eq, show 0 + (n : Int).toNat = n by omega, List.getElem?_map, List.getElem?_eq_getElem h]; rfl
theorem get_mapI {α : Type} (f : α → List DV) (l : List α) (n : Int) (h0 : 0 ≤ n) (h : n < l.length) : (l.map f)[addN 0 n.toNat]? = some (f (l[n.toNat]'(by omega))) := by
 rw [addN_eq, Nat.zero_add, List.getElem?_map, List.getElem?_eq_getElem (by omega)]; rfl
def over {α : Type} (m t : List α) (j : Nat) : List α := m.take j ++ t.drop j
theorem over_set {α : Type} {m t : List α} (h : m.length = t.length) {j : Nat} (hj : j < t.length) : (over m t j).set j (m[j]'(by omega)) = over m t (j + 1) := by
 have h1 : (m.take j).length = j := by simp; omega
 rw [over, List.set_append, if_neg (by omega), h1, Nat.sub_self, List.drop_eq_getElem_cons hj]
 simp only [List.set_cons_zero, over]
 rw [List.take_succ_eq_append_getElem (show j < m.length by omega), List.append_assoc]; rfl
theorem over_end {α : Type} {m t : List α} (h : m.length = t.length) {j : Nat} (hj : t.length ≤ j) : over m t j = m := by
 rw [over, List.take_of_length_le (by omega), List.drop_eq_nil_of_le hj]; simp
theorem over_get {α : Type} {m t : List α} (h : m.length = t.length) {j : Nat} (hj : j < t.length) : (over m t j)[j]? = some t[j] := by
 rw [over, List.getElem?_append_right (by simp; omega)]
 simp [h, Nat.min_eq_left (Nat.le_of_lt hj), hj]
theorem fz_self {α : Type} (l : List α) (f : α → List DV) (h : ∀ a, (f a).map some = (f a).map fzD) : Fz (l.map f) (l.map f) := Fz.map l f f h
def plainB (es : List (List DV)) : Bool := es.all fun e => e.all fun d => match d with | .sc _ => true | .sl _ => true | _ => false
theorem fz_pl {es : List (List DV)} (h : plainB es = true) : Fz es es := by
 unfold Fz
 refine List.map_congr_left fun e he => List.map_congr_left fun d hd => ?_
 have := List.all_eq_true.1 (List.all_eq_true.1 h e he) d hd
 cases d <;> simp_all [fzD]
theorem SlF.self {α : Type} (l : List α) (f : α → List DV) {n : Nat} (h : n = l.length) (hf : ∀ a, (f a).map some = (f a).map fzD) : SlF (l.map f) 0 n (l.map f) := SlF.full (by simpa using h) (fz_self l f hf)
theorem SlF.pre {α : Type} (l : List α) (f : α → List DV) {k : Nat} (h : k ≤ l.length) (hf : ∀ a, (f a).map some = (f a).map fzD) : SlF (l.map f) 0 k ((l.take k).map f) :=
 SlF.of ⟨by simp; omega, by simp [List.map_take]⟩ (fz_self _ f hf)
theorem SlF.same {es : List (List DV)} {n : Nat} (h : n = es.length) (hf : Fz es es) : SlF es 0 n es := SlF.full h hf
theorem SlOf.pre {α : Type} (f : α → List DV) (l : List α) {k : Nat} (h : k ≤ l.length) : SlOf (l.map f) 0 k ((l.take k).map f) := ⟨by simp; omega, by simp [List.map_take]⟩
abbrev tsD (t : List UInt8) : List DV := [.sc (.string (bs t))]
abbrev cTs (l : List (List UInt8)) : CV := .dv (.sl (l.map tsD))
abbrev vTs (l : List (List UInt8)) : SV := .one (cTs l)
theorem flat_ts (l : List (List UInt8)) : flatEs (l.map tsD) := fun e he d hd => by obtain ⟨b, _, rfl⟩ := List.mem_map.1 he; simp at hd; subst hd; rfl
theorem set_tsN (l : List (List UInt8)) (n : Nat) (c : DV) (b : List UInt8) : (l.map tsD).set (addN 0 (n : Int).toNat) (splice [c] 0 [.sc (.string (bs b))]) = (l.set n b).map tsD := by
 rw [addN_eq, List.map_set, show 0 + (n : Int).toNat = n by omega]; rfl
theorem set_tsI (l : List (List UInt8)) (n : Int) (c : DV) (b : List UInt8) : (l.map tsD).set (addN 0 n.toNat) (splice [c] 0 [.sc (.string (bs b))]) = (l.set n.toNat b).map tsD := by
 rw [addN_eq, List.map_set, Nat.zero_add]; rfl
end Go.Proofs.Ytpdjehnlejjfmaa.D
/- An own slice inside a row is written no more: it is read from then on. -/
namespace Go.Proofs.Ytpdjehnlejjfmaa.D
open Go.RowKit
set_option linter.unusedVariables false
set_option linter.unusedSimpArgs false

theorem le_frzH {S : St} {p k i j k1 off len : Nat} {es es1 xs : List (List DV)} {e : List DV} (hp : newN p) (hL : S.L p = some (.own k es)) (he : es[i]? = some e) (hd : e[j]? = some (.ow k1 off len es1))
  (hle : off + len ≤ es1.length) (hf : Fz ((es1.drop off).take len) xs) : Le S ((S.killH p).new p (.own k (es.set i (e.set j (.sl xs))))) := by
 classical
 rintro w0 M N V0 a w ⟨V, bs, h0, h1, h⟩
 have hLx : S.Lx (.h p i j) = some (k1, es1) := by simp only [St.Lx, hL, he, hd]
 obtain ⟨hi, hi2⟩ := List.getElem?_eq_some_iff.1 he
 obtain ⟨hj, hj2⟩ := List.getElem?_eq_some_iff.1 hd
 let V' : View := fun x => match V x with
  | some v => some v
  | none => if ∃ n, bs (.h p i j) = some (x.block, n) then w.cell? x else none
 let bs' : Loc := fun q => if q = .h p i j then none else bs q
 have hV : V.le V' := fun x v hx => by simp only [V', hx]
 have hV' : ∀ x v, V' x = some v → V x = some v ∨ (∃ n, bs (.h p i j) = some (x.block, n)) ∧ w.cell? x = some v := fun x v hx => by
  simp only [V'] at hx
  split at hx
  ·rename_i u hu; simp at hx; subst hx; exact .inl hu
  ·split at hx
   ·rename_i hb; exact .inr ⟨hb, hx⟩
   ·simp at hx
 have hb1 : ∀ q : Nm, q ≠ .h p i j → bs' q = bs q := fun q hq => by simp [bs', hq]
 have hb2 : bs' (.h p i j) = none := by simp [bs']
 have hkill : ∀ c v, CR V bs c v → CR V' bs' (killHC p c) v := fun c v hc => killHC_ok hV (fun nm hnm x hx => by rw [hb1 nm (hnm i j)]; exact hx) hc
 have hSL : ∀ r, r ≠ p → ((S.killH p).new p (.own k (es.set i (e.set j (.sl xs))))).L r = (S.killH p).L r := fun r e1 => by simp only [St.new]; rw [upd_ne _ _ _ _ e1]
 have hSp : ((S.killH p).new p (.own k (es.set i (e.set j (.sl xs))))).L p = some (.own k (es.set i (e.set j (.sl xs)))) := by simp only [St.new]; rw [upd_same]
 have hpar : p < M.n → False := fun hlt => by have := h.ml.1; have := hp.1; omega
 refine ⟨V', bs', h0.trans hV, fun x u hx => (hV' x u hx).elim (h1 x u) (fun ⟨⟨n, hb⟩, _⟩ => .inr (newN_fresh h (nm := .h p i j) hp hb)), ?_⟩
 have hap : ∀ (x : Addr) n, bs (.h p i j) = some (x.block, n) → ∀ q', bs' q' ≠ none → ∀ b m, bs' q' = some (b, m) → b ≠ x.block := fun x n hb q' hq' b m hb' e0 => by
  subst e0
  by_cases e1 : q' = .h p i j
  ·rw [e1, hb2] at hb'; simp at hb'
  ·rw [hb1 q' e1] at hb'
   exact e1 (h.inj _ _ _ _ _ hb hb').symm
 refine h.ren (fun x v hx => (hV' x v hx).imp id (fun ⟨⟨n, hb⟩, hc⟩ => ⟨⟨.h p i j, n, hb, newN_fresh h (nm := .h p i j) hp hb, hap x n hb⟩, hc⟩)) rfl rfl rfl (Nat.le_refl _) (fun _ _ => .inl rfl) some (fun x y z h1 h2 => by simp at h1 h2; rw [h1, h2]) (.v p) (fun nm b n hb => ?_)
  (fun q r hq hlt hmv => ?_) (fun q hq => ?_) (fun q r hq => ?_) (fun t => (h.tmps t).map hkill)
 ·by_cases e1 : nm = .h p i j
  ·rw [e1, hb2] at hb; simp at hb
  ·rw [hb1 nm e1] at hb; exact .inl ⟨nm, n, rfl, hb, .inl rfl⟩
 ·by_cases e1 : q = p
  ·subst e1; exact (hpar hlt).elim
  ·rw [hb1 (.v q) (by simp)]; rw [hSL q e1] at hq
   obtain ⟨r0, h3, _⟩ := mapC_some hq
   exact h.par q r0 h3 hlt hmv
 ·by_cases e1 : q = p
  ·subst e1; rw [hSp] at hq; simp at hq
  ·rw [hSL q e1] at hq
   have := h.dom q (St.mapC_none.1 hq)
   exact ⟨by rw [hb1 (.v q) (by simp)]; exact this.1, fun i' j' => by rw [hb1 (.h q i' j') (by simp [e1])]; exact this.2 i' j'⟩
 ·by_cases e1 : q = p
  ·subst e1
   rw [hSp] at hq
   simp only [Option.some.injEq] at hq
   subst hq
   rw [hb1 (.v q) (by simp)]
   rcases h.rows q _ hL with ⟨b, n, hb, g1, g2, g3, g4⟩ | ⟨_, k0, hk⟩
   ·refine .inl ⟨b, n, hb, by simpa using g1, g2, fun i' hi' => ?_, fun i' j' hi' hj' => ?_⟩
    ·have hi'' : i' < es.length := by simpa using hi'
     rw [List.getElem_set]
     split
     ·simp only [List.length_set]; rw [← hi2]; exact g3 i hi
     ·exact g3 i' hi''
    ·have hi'' : i' < es.length := by simpa using hi'
     by_cases e2 : i' = i
     ·subst e2
      have hjl : j' < e.length := by simpa using hj'
      have hee : es[i']'hi'' = e := hi2
      by_cases e3 : j' = j
      ·subst e3
       obtain ⟨v, g5, g6⟩ := g4 i' j' hi'' (by rw [hee]; exact hjl)
       refine ⟨v, g5, ?_⟩
       simp only [List.getElem_set_self]
       have g7 : (es[i']'hi'')[j']'(by rw [hee]; exact hjl) = .ow k1 off len es1 := by simp only [hee]; exact hj2
       rw [g7] at g6
       refine .rd (own_rd h (nm := .h q i' j') hLx hV (fun r hr b2 n2 hb3 x u hx hu => ?_) (?_ : CR V bs (.os (.h q i' j') k1 off len) v) hle hf)
       ·rcases hr with rfl | ⟨_, _, _, e4, _⟩
        ·cases hVx : V x with
         | some y => rw [hV _ _ hVx]; rw [h.view _ _ hVx] at hu; exact hu
         | none => simp only [V', hVx]; rw [if_pos ⟨n2, by rw [hx]; exact hb3⟩]; exact hu
        ·simp at e4
       ·cases g6 with
        | rd h => cases h
        | ow hb2 ho hl hc h => exact .os hb2 hl hc
        | ownil _ _ h => exact .oszero
      ·obtain ⟨v, g5, g6⟩ := g4 i' j' hi'' (by rw [hee]; exact hjl)
       refine ⟨v, g5, ?_⟩
       simp only [List.getElem_set_self]
       rw [List.getElem_set_ne (by omega)]
       have g7 : (es[i']'hi'')[j']'(by rw [hee]; exact hjl) = e[j'] := by simp only [hee]
       rw [g7] at g6
       exact g6.mono hV (hb1 _ (by simp [e3])) (fun _ _ _ => rfl)
     ·have g8 : (es.set i (e.set j (.sl xs)))[i']'hi' = es[i']'hi'' := List.getElem_set_ne (by omega) _
      obtain ⟨v, g5, g6⟩ := g4 i' j' hi'' (by rw [← g8]; exact hj')
      refine ⟨v, g5, ?_⟩
      have g9 : ((es.set i (e.set j (.sl xs)))[i']'hi')[j']'hj' = (es[i']'hi'')[j']'(by rw [← g8]; exact hj') := by simp only [g8]
      rw [g9]
      exact g6.mono hV (hb1 _ (by simp [e2])) (fun _ _ _ => rfl)
   ·simp at hk; obtain ⟨_, rfl⟩ := hk; simp at hi
  ·rw [hSL q e1] at hq
   obtain ⟨r0, hr0, rfl⟩ := mapC_some hq
   rw [hb1 (.v q) (by simp)]
   exact (h.rows q r0 hr0).imp (fun ⟨b, m, h1, h2⟩ => ⟨b, m, h1, h2.map hV hkill fun i' j' => hb1 (.h q i' j') (by simp [e1])⟩) (fun ⟨h1, k, h2⟩ => ⟨h1, k, by rw [h2]; rfl⟩)
end Go.Proofs.Ytpdjehnlejjfmaa.D
/- The heads of the functions: the table of types, plans of regions that draw their order, and a contract out of the code. Printed by wip/tools/gen.py. -/
namespace Go.Proofs.Ytpdjehnlejjfmaa.D
open Go.RowKit
set_option maxRecDepth 100000
def tyList : List (TypeId × TyI) := [(3, ⟨.int .i64, 1, 8, [.zi .i64], false⟩),
 (4, ⟨.bool, 1, 1, [.zb], false⟩),
 (5, ⟨.int .u8, 1, 1, [.zi .u8], false⟩),
 (9, ⟨.string, 1, 16, [.zs], false⟩),
 (22, ⟨.slice 92, 1, 24, [.zl], false⟩),
 (24, ⟨.slice 5, 1, 24, [.zl], false⟩),
 (27, ⟨.slice 56, 1, 24, [.zl], false⟩),
 (41, ⟨.slice 3, 1, 24, [.zl], false⟩),
 (43, ⟨.struct [(0, 41)], 1, 24, [.zl], false⟩),
 (54, ⟨.struct [(0, 3), (1, 3)], 2, 16, [.zi .i64, .zi .i64], true⟩),
 (56, ⟨.struct [(0, 3), (1, 3), (2, 3), (3, 43), (4, 3), (5, 3), (6, 3), (7, 3), (8, 54), (10, 9), (11, 9)], 12, 128, [.zi .i64, .zi .i64, .zi .i64, .zl, .zi .i64, .zi .i64, .zi .i64, .zi .i64, .zi .i64, .zi .i64, .zs, .zs], false⟩),
 (66, ⟨.slice 68, 1, 24, [.zl], false⟩),
 (68, ⟨.struct [(0, 3), (1, 3), (2, 3), (3, 9)], 4, 40, [.zi .i64, .zi .i64, .zi .i64, .zs], true⟩),
 (69, ⟨.slice 73, 1, 24, [.zl], false⟩),
 (73, ⟨.struct [(0, 3), (1, 3), (2, 3), (3, 9)], 4, 40, [.zi .i64, .zi .i64, .zi .i64, .zs], true⟩),
 (74, ⟨.slice 175, 1, 24, [.zl], false⟩),
 (76, ⟨.struct [(0, 43), (1, 74)], 2, 48, [.zl, .zl], false⟩),
 (83, ⟨.struct [(0, 43), (1, 74)], 2, 48, [.zl, .zl], false⟩),
 (89, ⟨.struct [(0, 41)], 1, 24, [.zl], false⟩),
 (90, ⟨.struct [(0, 3), (1, 3)], 2, 16, [.zi .i64, .zi .i64], true⟩),
 (92, ⟨.struct [(0, 3), (1, 3), (2, 3), (3, 89), (4, 3), (5, 3), (6, 3), (7, 3), (8, 90), (10, 9), (11, 9)], 12, 128, [.zi .i64, .zi .i64, .zi .i64, .zl, .zi .i64, .zi .i64, .zi .i64, .zi .i64, .zi .i64, .zi .i64, .zs, .zs], false⟩),
 (101, ⟨.ptr 110, 1, 8, [.zp], false⟩),
 (105, ⟨.ptr 193, 1, 8, [.zp], false⟩),
 (107, ⟨.array 16 27, 16, 384, [.zl, .zl, .zl, .zl, .zl, .zl, .zl, .zl, .zl, .zl, .zl, .zl, .zl, .zl, .zl, .zl], false⟩),
 (108, ⟨.array 101 3, 101, 808, [.zi .i64, .zi .i64, .zi .i64, .zi .i64, .zi .i64, .zi .i64, .zi .i64, .zi .i64, .zi .i64, .zi .i64, .zi .i64, .zi .i64, .zi .i64, .zi .i64, .zi .i64, .zi .i64, .zi .i64, .zi .i64, .zi .i64, .zi .i64, .zi .i64, .zi .i64, .zi .i64, .zi .i64, .zi .i64, .zi .i64, .zi .i64, .zi .i64, .zi .i64, .zi .i64, .zi .i64, .zi .i64, .zi .i64, .zi .i64, .zi .i64, .zi .i64, .zi .i64, .zi .i64, .zi .i64, .zi .i64, .zi .i64, .zi .i64, .zi .i64, .zi .i64, .zi .i64, .zi .i64, .zi .i64, .zi .i64, .zi .i64, .zi .i64, .zi .i64, .zi .i64, .zi .i64, .zi .i64, .zi .i64, .zi .i64, .zi .i64, .zi .i64, .zi .i64, .zi .i64, .zi .i64, .zi .i64, .zi .i64, .zi .i64, .zi .i64, .zi .i64, .zi .i64, .zi .i64, .zi .i64, .zi .i64, .zi .i64, .zi .i64, .zi .i64, .zi .i64, .zi .i64, .zi .i64, .zi .i64, .zi .i64, .zi .i64, .zi .i64, .zi .i64, .zi .i64, .zi .i64, .zi .i64, .zi .i64, .zi .i64, .zi .i64, .zi .i64, .zi .i64, .zi .i64, .zi .i64, .zi .i64, .zi .i64, .zi .i64, .zi .i64, .zi .i64, .zi .i64, .zi .i64, .zi .i64, .zi .i64, .zi .i64], false⟩),
 (110, ⟨.struct [(0, 107), (16, 108), (117, 3), (118, 54)], 120, 1216, [.zl, .zl, .zl, .zl, .zl, .zl, .zl, .zl, .zl, .zl, .zl, .zl, .zl, .zl, .zl, .zl, .zi .i64, .zi .i64, .zi .i64, .zi .i64, .zi .i64, .zi .i64, .zi .i64, .zi .i64, .zi .i64, .zi .i64, .zi .i64, .zi .i64, .zi .i64, .zi .i64, .zi .i64, .zi .i64, .zi .i64, .zi .i64, .zi .i64, .zi .i64, .zi .i64, .zi .i64, .zi .i64, .zi .i64, .zi .i64, .zi .i64, .zi .i64, .zi .i64, .zi .i64, .zi .i64, .zi .i64, .zi .i64, .zi .i64, .zi .i64, .zi .i64, .zi .i64, .zi .i64, .zi .i64, .zi .i64, .zi .i64, .zi .i64, .zi .i64, .zi .i64, .zi .i64, .zi .i64, .zi .i64, .zi .i64, .zi .i64, .zi .i64, .zi .i64, .zi .i64, .zi .i64, .zi .i64, .zi .i64, .zi .i64, .zi .i64, .zi .i64, .zi .i64, .zi .i64, .zi .i64, .zi .i64, .zi .i64, .zi .i64, .zi .i64, .zi .i64, .zi .i64, .zi .i64, .zi .i64, .zi .i64, .zi .i64, .zi .i64, .zi .i64, .zi .i64, .zi .i64, .zi .i64, .zi .i64, .zi .i64, .zi .i64, .zi .i64, .zi .i64, .zi .i64, .zi .i64, .zi .i64, .zi .i64, .zi .i64, .zi .i64, .zi .i64, .zi .i64, .zi .i64, .zi .i64, .zi .i64, .zi .i64, .zi .i64, .zi .i64, .zi .i64, .zi .i64, .zi .i64, .zi .i64, .zi .i64, .zi .i64, .zi .i64, .zi .i64, .zi .i64, .zi .i64], false⟩),
 (113, ⟨.ptr 115, 1, 8, [.zp], false⟩),
 (115, ⟨.struct [(0, 24), (1, 3), (2, 4)], 3, 40, [.zl, .zi .i64, .zb], false⟩),
 (116, ⟨.slice 41, 1, 24, [.zl], false⟩),
 (118, ⟨.slice 9, 1, 24, [.zl], false⟩),
 (121, ⟨.int .u32, 1, 4, [.zi .u32], false⟩),
 (124, ⟨.struct [(0, 24), (1, 3), (2, 4)], 3, 40, [.zl, .zi .i64, .zb], false⟩),
 (125, ⟨.array 25 41, 25, 600, [.zl, .zl, .zl, .zl, .zl, .zl, .zl, .zl, .zl, .zl, .zl, .zl, .zl, .zl, .zl, .zl, .zl, .zl, .zl, .zl, .zl, .zl, .zl, .zl, .zl], false⟩),
 (127, ⟨.ptr 198, 1, 8, [.zp], false⟩),
 (149, ⟨.struct [(0, 3), (1, 3)], 2, 16, [.zi .i64, .zi .i64], true⟩),
 (153, ⟨.slice 27, 1, 24, [.zl], false⟩),
 (160, ⟨.ptr 166, 1, 8, [.zp], false⟩),
 (161, ⟨.array 16 4, 16, 16, [.zb, .zb, .zb, .zb, .zb, .zb, .zb, .zb, .zb, .zb, .zb, .zb, .zb, .zb, .zb, .zb], false⟩),
 (162, ⟨.slice 161, 1, 24, [.zl], false⟩),
 (163, ⟨.slice 4, 1, 24, [.zl], false⟩),
 (164, ⟨.slice 210, 1, 24, [.zl], false⟩),
 (166, ⟨.struct [(0, 161), (16, 3), (17, 162), (18, 163), (19, 163), (20, 164)], 21, 120, [.zb, .zb, .zb, .zb, .zb, .zb, .zb, .zb, .zb, .zb, .zb, .zb, .zb, .zb, .zb, .zb, .zi .i64, .zl, .zl, .zl, .zl], false⟩),
 (175, ⟨.struct [(0, 54), (2, 9)], 3, 32, [.zi .i64, .zi .i64, .zs], true⟩),
 (185, ⟨.array 9 3, 9, 72, [.zi .i64, .zi .i64, .zi .i64, .zi .i64, .zi .i64, .zi .i64, .zi .i64, .zi .i64, .zi .i64], false⟩),
 (193, ⟨.array 9 41, 9, 216, [.zl, .zl, .zl, .zl, .zl, .zl, .zl, .zl, .zl], false⟩),
 (195, ⟨.int .u64, 1, 8, [.zi .u64], false⟩),
 (196, ⟨.ptr 124, 1, 8, [.zp], false⟩),
 (198, ⟨.struct [(0, 24), (1, 3), (2, 3)], 3, 40, [.zl, .zi .i64, .zi .i64], false⟩),
 (210, ⟨.struct [(0, 3), (1, 9)], 2, 24, [.zi .i64, .zs], true⟩),
 (212, ⟨.slice 76, 1, 24, [.zl], false⟩),
 (218, ⟨.int .u64, 1, 8, [.zi .u64], false⟩),
 (220, ⟨.slice 54, 1, 24, [.zl], false⟩)]
def lk : List (TypeId × TyI) → TypeId → Option TyI
 | [], _ => none
 | (a, i) :: r, t => match Nat.beq t a with | true => some i | false => lk r t
theorem lk_ok (P : Program) : ∀ (l : List (TypeId × TyI)), l.all (fun x => tyOk P x.1 x.2) = true → ∀ t i, lk l t = some i → TyFacts P t i
 | [], _, _, _, h => by simp [lk] at h
 |(a, j) :: r, hl, t, i, h => by
  simp only [List.all_cons, Bool.and_eq_true] at hl
  simp only [lk] at h
  split at h
  ·rename_i e; have := Nat.eq_of_beq_eq_true e; subst this; simp at h; subst h; exact tyOk_facts hl.1
  ·exact lk_ok P r hl.2 t i h
def T : Tab Try.prog := ⟨lk tyList, by kernel_rfl, lk_ok Try.prog tyList (by kernel_rfl)⟩
def bodyOf (f : Func) : Code := match f.body with | some c => c | none => .skip
def plk (l : List (Nat × PS)) (i : Nat) : Option PS := match l with | [] => none | (j, p) :: r => match Nat.beq i j with | true => some p | false => plk r i
abbrev id_laws_FnExactTreeSum : FuncId := 4
def pl_laws_FnExactTreeSum : Nat → Option PS := plk []
theorem F_laws_FnExactTreeSum {args : List SV} {Li : List Row} {mv : List Nat} {cl : Bool} {Post : SV → List Row → Prop} (h : wpE Try.prog (lk tyList) pl_laws_FnExactTreeSum (bodyOf Try.f4) ⟨argT args, Lof Li, []⟩ (retE (lk tyList) Try.f4.results.toList Li.length mv cl Post)) (hN : args.length ≤ Try.f4.ntmps := by simp [Try.ntmps4]) :
  CallM Try.prog id_laws_FnExactTreeSum args Li mv cl Post := CallM.ofE T pl_laws_FnExactTreeSum Try.func4 (by kernel_rfl) rfl (by kernel_rfl) (by kernel_rfl) hN h
abbrev id_laws_szOpS : FuncId := 14
def pl_laws_szOpS : Nat → Option PS := plk []
theorem F_laws_szOpS {args : List SV} {Li : List Row} {mv : List Nat} {cl : Bool} {Post : SV → List Row → Prop} (h : wpE Try.prog (lk tyList) pl_laws_szOpS (bodyOf Try.f14) ⟨argT args, Lof Li, []⟩ (retE (lk tyList) Try.f14.results.toList Li.length mv cl Post)) (hN : args.length ≤ Try.f14.ntmps := by simp [Try.ntmps14]) :
  CallM Try.prog id_laws_szOpS args Li mv cl Post := CallM.ofE T pl_laws_szOpS Try.func14 (by kernel_rfl) rfl (by kernel_rfl) (by kernel_rfl) hN h
abbrev id_laws_toOpS : FuncId := 16
def pl_laws_toOpS : Nat → Option PS := plk []
theorem F_laws_toOpS {args : List SV} {Li : List Row} {mv : List Nat} {cl : Bool} {Post : SV → List Row → Prop} (h : wpE Try.prog (lk tyList) pl_laws_toOpS (bodyOf Try.f16) ⟨argT args, Lof Li, []⟩ (retE (lk tyList) Try.f16.results.toList Li.length mv cl Post)) (hN : args.length ≤ Try.f16.ntmps := by simp [Try.ntmps16]) :
  CallM Try.prog id_laws_toOpS args Li mv cl Post := CallM.ofE T pl_laws_toOpS Try.func16 (by kernel_rfl) rfl (by kernel_rfl) (by kernel_rfl) hN h
abbrev id_laws_eqOpS : FuncId := 19
def pl_laws_eqOpS : Nat → Option PS := plk [(6, .v 0 (.v 1 (.v 2 (.v 3 (.v 4 (.v 5 (.v 6 (.v 7 (.x 8 [] (.v 9 (.done)))))))))))]
theorem F_laws_eqOpS {args : List SV} {Li : List Row} {mv : List Nat} {cl : Bool} {Post : SV → List Row → Prop} (h : wpE Try.prog (lk tyList) pl_laws_eqOpS (bodyOf Try.f19) ⟨argT args, Lof Li, []⟩ (retE (lk tyList) Try.f19.results.toList Li.length mv cl Post)) (hN : args.length ≤ Try.f19.ntmps := by simp [Try.ntmps19]) :
  CallM Try.prog id_laws_eqOpS args Li mv cl Post := CallM.ofE T pl_laws_eqOpS Try.func19 (by kernel_rfl) rfl (by kernel_rfl) (by kernel_rfl) hN h
abbrev id_spec_TreeSum : FuncId := 23
def pl_spec_TreeSum : Nat → Option PS := plk []
theorem F_spec_TreeSum {args : List SV} {Li : List Row} {mv : List Nat} {cl : Bool} {Post : SV → List Row → Prop} (h : wpE Try.prog (lk tyList) pl_spec_TreeSum (bodyOf Try.f23) ⟨argT args, Lof Li, []⟩ (retE (lk tyList) Try.f23.results.toList Li.length mv cl Post)) (hN : args.length ≤ Try.f23.ntmps := by simp [Try.ntmps23]) :
  CallM Try.prog id_spec_TreeSum args Li mv cl Post := CallM.ofE T pl_spec_TreeSum Try.func23 (by kernel_rfl) rfl (by kernel_rfl) (by kernel_rfl) hN h
abbrev id_impl_TreeSum : FuncId := 24
def pl_impl_TreeSum : Nat → Option PS := plk []
theorem F_impl_TreeSum {args : List SV} {Li : List Row} {mv : List Nat} {cl : Bool} {Post : SV → List Row → Prop} (h : wpE Try.prog (lk tyList) pl_impl_TreeSum (bodyOf Try.f24) ⟨argT args, Lof Li, []⟩ (retE (lk tyList) Try.f24.results.toList Li.length mv cl Post)) (hN : args.length ≤ Try.f24.ntmps := by simp [Try.ntmps24]) :
  CallM Try.prog id_impl_TreeSum args Li mv cl Post := CallM.ofE T pl_impl_TreeSum Try.func24 (by kernel_rfl) rfl (by kernel_rfl) (by kernel_rfl) hN h
abbrev id_spec_LogOK : FuncId := 45
def pl_spec_LogOK : Nat → Option PS := plk [(8, .v 0 (.v 1 (.v 2 (.v 3 (.v 4 (.v 5 (.v 6 (.v 7 (.v 8 (.v 9 (.v 10 (.v 11 (.v 12 (.v 13 (.v 14 (.v 15 (.v 16 (.done)))))))))))))))))),
 (9, .v 0 (.v 1 (.v 2 (.v 3 (.v 4 (.v 5 (.v 6 (.v 7 (.v 8 (.v 9 (.v 10 (.v 11 (.v 12 (.v 13 (.v 14 (.v 15 (.v 16 (.v 17 (.v 18 (.v 19 (.v 20 (.v 21 (.v 22 (.v 23 (.v 24 (.v 25 (.v 26 (.v 27 (.v 28 (.v 29 (.v 30 (.v 31 (.v 32 (.v 33 (.v 34 (.v 35 (.v 36 (.v 37 (.v 38 (.v 39 (.v 40 (.v 41 (.v 42 (.v 43 (.v 44 (.v 45 (.done))))))))))))))))))))))))))))))))))))))))))))))),
 (16, .v 0 (.v 1 (.v 2 (.v 3 (.v 4 (.v 5 (.x 6 [] (.v 7 (.done)))))))))]
theorem F_spec_LogOK {args : List SV} {Li : List Row} {mv : List Nat} {cl : Bool} {Post : SV → List Row → Prop} (h : wpE Try.prog (lk tyList) pl_spec_LogOK (bodyOf Try.f45) ⟨argT args, Lof Li, []⟩ (retE (lk tyList) Try.f45.results.toList Li.length mv cl Post)) (hN : args.length ≤ Try.f45.ntmps := by simp [Try.ntmps45]) :
  CallM Try.prog id_spec_LogOK args Li mv cl Post := CallM.ofE T pl_spec_LogOK Try.func45 (by kernel_rfl) rfl (by kernel_rfl) (by kernel_rfl) hN h
abbrev id_laws_szOp : FuncId := 61
def pl_laws_szOp : Nat → Option PS := plk []
theorem F_laws_szOp {args : List SV} {Li : List Row} {mv : List Nat} {cl : Bool} {Post : SV → List Row → Prop} (h : wpE Try.prog (lk tyList) pl_laws_szOp (bodyOf Try.f61) ⟨argT args, Lof Li, []⟩ (retE (lk tyList) Try.f61.results.toList Li.length mv cl Post)) (hN : args.length ≤ Try.f61.ntmps := by simp [Try.ntmps61]) :
  CallM Try.prog id_laws_szOp args Li mv cl Post := CallM.ofE T pl_laws_szOp Try.func61 (by kernel_rfl) rfl (by kernel_rfl) (by kernel_rfl) hN h
abbrev id_laws_toOp : FuncId := 63
def pl_laws_toOp : Nat → Option PS := plk []
theorem F_laws_toOp {args : List SV} {Li : List Row} {mv : List Nat} {cl : Bool} {Post : SV → List Row → Prop} (h : wpE Try.prog (lk tyList) pl_laws_toOp (bodyOf Try.f63) ⟨argT args, Lof Li, []⟩ (retE (lk tyList) Try.f63.results.toList Li.length mv cl Post)) (hN : args.length ≤ Try.f63.ntmps := by simp [Try.ntmps63]) :
  CallM Try.prog id_laws_toOp args Li mv cl Post := CallM.ofE T pl_laws_toOp Try.func63 (by kernel_rfl) rfl (by kernel_rfl) (by kernel_rfl) hN h
abbrev id_laws_eqOp : FuncId := 66
def pl_laws_eqOp : Nat → Option PS := plk []
theorem F_laws_eqOp {args : List SV} {Li : List Row} {mv : List Nat} {cl : Bool} {Post : SV → List Row → Prop} (h : wpE Try.prog (lk tyList) pl_laws_eqOp (bodyOf Try.f66) ⟨argT args, Lof Li, []⟩ (retE (lk tyList) Try.f66.results.toList Li.length mv cl Post)) (hN : args.length ≤ Try.f66.ntmps := by simp [Try.ntmps66]) :
  CallM Try.prog id_laws_eqOp args Li mv cl Post := CallM.ofE T pl_laws_eqOp Try.func66 (by kernel_rfl) rfl (by kernel_rfl) (by kernel_rfl) hN h
abbrev id_spec_l12Power : FuncId := 69
def pl_spec_l12Power : Nat → Option PS := plk []
theorem F_spec_l12Power {args : List SV} {Li : List Row} {mv : List Nat} {cl : Bool} {Post : SV → List Row → Prop} (h : wpE Try.prog (lk tyList) pl_spec_l12Power (bodyOf Try.f69) ⟨argT args, Lof Li, []⟩ (retE (lk tyList) Try.f69.results.toList Li.length mv cl Post)) (hN : args.length ≤ Try.f69.ntmps := by simp [Try.ntmps69]) :
  CallM Try.prog id_spec_l12Power args Li mv cl Post := CallM.ofE T pl_spec_l12Power Try.func69 (by kernel_rfl) rfl (by kernel_rfl) (by kernel_rfl) hN h
abbrev id_spec_l12Node : FuncId := 70
def pl_spec_l12Node : Nat → Option PS := plk []
theorem F_spec_l12Node {args : List SV} {Li : List Row} {mv : List Nat} {cl : Bool} {Post : SV → List Row → Prop} (h : wpE Try.prog (lk tyList) pl_spec_l12Node (bodyOf Try.f70) ⟨argT args, Lof Li, []⟩ (retE (lk tyList) Try.f70.results.toList Li.length mv cl Post)) (hN : args.length ≤ Try.f70.ntmps := by simp [Try.ntmps70]) :
  CallM Try.prog id_spec_l12Node args Li mv cl Post := CallM.ofE T pl_spec_l12Node Try.func70 (by kernel_rfl) rfl (by kernel_rfl) (by kernel_rfl) hN h
abbrev id_spec_l12Own : FuncId := 71
def pl_spec_l12Own : Nat → Option PS := plk []
theorem F_spec_l12Own {args : List SV} {Li : List Row} {mv : List Nat} {cl : Bool} {Post : SV → List Row → Prop} (h : wpE Try.prog (lk tyList) pl_spec_l12Own (bodyOf Try.f71) ⟨argT args, Lof Li, []⟩ (retE (lk tyList) Try.f71.results.toList Li.length mv cl Post)) (hN : args.length ≤ Try.f71.ntmps := by simp [Try.ntmps71]) :
  CallM Try.prog id_spec_l12Own args Li mv cl Post := CallM.ofE T pl_spec_l12Own Try.func71 (by kernel_rfl) rfl (by kernel_rfl) (by kernel_rfl) hN h
abbrev id_impl_readBook : FuncId := 72
def pl_impl_readBook : Nat → Option PS := plk [(7, .v 0 (.x 1 [] (.v 2 (.v 3 (.v 4 (.v 5 (.v 6 (.v 7 (.v 8 (.v 9 (.v 10 (.v 11 (.v 12 (.v 13 (.v 14 (.v 15 (.v 16 (.v 17 (.v 18 (.v 19 (.v 20 (.v 21 (.v 22 (.v 23 (.v 24 (.v 25 (.v 26 (.v 27 (.v 28 (.v 29 (.v 30 (.v 31 (.done))))))))))))))))))))))))))))))))),
 (9, .v 0 (.v 1 (.v 2 (.v 3 (.v 4 (.v 5 (.v 6 (.v 7 (.v 8 (.v 9 (.v 10 (.v 11 (.v 12 (.v 13 (.v 14 (.v 15 (.v 16 (.x 17 [15, 14, 13, 12, 11, 10, 9] (.v 18 (.v 19 (.done))))))))))))))))))))),
 (19, .v 0 (.v 1 (.v 2 (.v 3 (.v 4 (.v 5 (.v 6 (.v 7 (.v 8 (.v 9 (.v 10 (.v 11 (.v 12 (.v 13 (.v 14 (.v 15 (.v 16 (.v 17 (.v 18 (.v 19 (.v 20 (.v 21 (.v 22 (.v 24 (.x 23 [24] (.x 25 [] (.x 26 [] (.v 27 (.v 28 (.v 29 (.done)))))))))))))))))))))))))))))))]
theorem F_impl_readBook {args : List SV} {Li : List Row} {mv : List Nat} {cl : Bool} {Post : SV → List Row → Prop} (h : wpE Try.prog (lk tyList) pl_impl_readBook (bodyOf Try.f72) ⟨argT args, Lof Li, []⟩ (retE (lk tyList) Try.f72.results.toList Li.length mv cl Post)) (hN : args.length ≤ Try.f72.ntmps := by simp [Try.ntmps72]) :
  CallM Try.prog id_impl_readBook args Li mv cl Post := CallM.ofE T pl_impl_readBook Try.func72 (by kernel_rfl) rfl (by kernel_rfl) (by kernel_rfl) hN h
abbrev id_impl_isActor : FuncId := 73
def pl_impl_isActor : Nat → Option PS := plk []
theorem F_impl_isActor {args : List SV} {Li : List Row} {mv : List Nat} {cl : Bool} {Post : SV → List Row → Prop} (h : wpE Try.prog (lk tyList) pl_impl_isActor (bodyOf Try.f73) ⟨argT args, Lof Li, []⟩ (retE (lk tyList) Try.f73.results.toList Li.length mv cl Post)) (hN : args.length ≤ Try.f73.ntmps := by simp [Try.ntmps73]) :
  CallM Try.prog id_impl_isActor args Li mv cl Post := CallM.ofE T pl_impl_isActor Try.func73 (by kernel_rfl) rfl (by kernel_rfl) (by kernel_rfl) hN h
abbrev id_impl_treeOf : FuncId := 74
def pl_impl_treeOf : Nat → Option PS := plk [(13, .v 0 (.v 1 (.v 2 (.v 3 (.v 4 (.v 5 (.v 8 (.x 6 [8, 4, 3, 2, 1, 0] (.x 7 [8, 0] (.v 9 (.x 10 [] (.done)))))))))))),
 (23, .v 0 (.v 1 (.v 2 (.v 3 (.v 5 (.v 6 (.v 7 (.v 8 (.v 9 (.x 4 [9, 8, 7, 6, 5] (.x 10 [] (.x 11 [] (.v 12 (.done)))))))))))))),
 (24, .v 0 (.v 1 (.v 2 (.v 3 (.v 4 (.v 5 (.v 6 (.v 7 (.v 10 (.x 8 [10, 6, 5, 4, 3, 2, 1, 0] (.x 9 [10, 1, 0] (.v 11 (.x 12 [] (.done))))))))))))))]
theorem F_impl_treeOf {args : List SV} {Li : List Row} {mv : List Nat} {cl : Bool} {Post : SV → List Row → Prop} (h : wpE Try.prog (lk tyList) pl_impl_treeOf (bodyOf Try.f74) ⟨argT args, Lof Li, []⟩ (retE (lk tyList) Try.f74.results.toList Li.length mv cl Post)) (hN : args.length ≤ Try.f74.ntmps := by simp [Try.ntmps74]) :
  CallM Try.prog id_impl_treeOf args Li mv cl Post := CallM.ofE T pl_impl_treeOf Try.func74 (by kernel_rfl) rfl (by kernel_rfl) (by kernel_rfl) hN h
abbrev id_spec_l01Four : FuncId := 75
def pl_spec_l01Four : Nat → Option PS := plk []
theorem F_spec_l01Four {args : List SV} {Li : List Row} {mv : List Nat} {cl : Bool} {Post : SV → List Row → Prop} (h : wpE Try.prog (lk tyList) pl_spec_l01Four (bodyOf Try.f75) ⟨argT args, Lof Li, []⟩ (retE (lk tyList) Try.f75.results.toList Li.length mv cl Post)) (hN : args.length ≤ Try.f75.ntmps := by simp [Try.ntmps75]) :
  CallM Try.prog id_spec_l01Four args Li mv cl Post := CallM.ofE T pl_spec_l01Four Try.func75 (by kernel_rfl) rfl (by kernel_rfl) (by kernel_rfl) hN h
abbrev id_spec_Sum32 : FuncId := 76
def pl_spec_Sum32 : Nat → Option PS := plk []
theorem F_spec_Sum32 {args : List SV} {Li : List Row} {mv : List Nat} {cl : Bool} {Post : SV → List Row → Prop} (h : wpE Try.prog (lk tyList) pl_spec_Sum32 (bodyOf Try.f76) ⟨argT args, Lof Li, []⟩ (retE (lk tyList) Try.f76.results.toList Li.length mv cl Post)) (hN : args.length ≤ Try.f76.ntmps := by simp [Try.ntmps76]) :
  CallM Try.prog id_spec_Sum32 args Li mv cl Post := CallM.ofE T pl_spec_Sum32 Try.func76 (by kernel_rfl) rfl (by kernel_rfl) (by kernel_rfl) hN h
abbrev id_impl_append4 : FuncId := 79
def pl_impl_append4 : Nat → Option PS := plk []
theorem F_impl_append4 {args : List SV} {Li : List Row} {mv : List Nat} {cl : Bool} {Post : SV → List Row → Prop} (h : wpE Try.prog (lk tyList) pl_impl_append4 (bodyOf Try.f79) ⟨argT args, Lof Li, []⟩ (retE (lk tyList) Try.f79.results.toList Li.length mv cl Post)) (hN : args.length ≤ Try.f79.ntmps := by simp [Try.ntmps79]) :
  CallM Try.prog id_impl_append4 args Li mv cl Post := CallM.ofE T pl_impl_append4 Try.func79 (by kernel_rfl) rfl (by kernel_rfl) (by kernel_rfl) hN h
abbrev id_impl_sumOn : FuncId := 80
def pl_impl_sumOn : Nat → Option PS := plk []
theorem F_impl_sumOn {args : List SV} {Li : List Row} {mv : List Nat} {cl : Bool} {Post : SV → List Row → Prop} (h : wpE Try.prog (lk tyList) pl_impl_sumOn (bodyOf Try.f80) ⟨argT args, Lof Li, []⟩ (retE (lk tyList) Try.f80.results.toList Li.length mv cl Post)) (hN : args.length ≤ Try.f80.ntmps := by simp [Try.ntmps80]) :
  CallM Try.prog id_impl_sumOn args Li mv cl Post := CallM.ofE T pl_impl_sumOn Try.func80 (by kernel_rfl) rfl (by kernel_rfl) (by kernel_rfl) hN h
abbrev id_impl_VecOK : FuncId := 88
def pl_impl_VecOK : Nat → Option PS := plk []
theorem F_impl_VecOK {args : List SV} {Li : List Row} {mv : List Nat} {cl : Bool} {Post : SV → List Row → Prop} (h : wpE Try.prog (lk tyList) pl_impl_VecOK (bodyOf Try.f88) ⟨argT args, Lof Li, []⟩ (retE (lk tyList) Try.f88.results.toList Li.length mv cl Post)) (hN : args.length ≤ Try.f88.ntmps := by simp [Try.ntmps88]) :
  CallM Try.prog id_impl_VecOK args Li mv cl Post := CallM.ofE T pl_impl_VecOK Try.func88 (by kernel_rfl) rfl (by kernel_rfl) (by kernel_rfl) hN h
abbrev id_spec_VecOK : FuncId := 90
def pl_spec_VecOK : Nat → Option PS := plk []
theorem F_spec_VecOK {args : List SV} {Li : List Row} {mv : List Nat} {cl : Bool} {Post : SV → List Row → Prop} (h : wpE Try.prog (lk tyList) pl_spec_VecOK (bodyOf Try.f90) ⟨argT args, Lof Li, []⟩ (retE (lk tyList) Try.f90.results.toList Li.length mv cl Post)) (hN : args.length ≤ Try.f90.ntmps := by simp [Try.ntmps90]) :
  CallM Try.prog id_spec_VecOK args Li mv cl Post := CallM.ofE T pl_spec_VecOK Try.func90 (by kernel_rfl) rfl (by kernel_rfl) (by kernel_rfl) hN h
abbrev id_spec_l08Counts : FuncId := 98
def pl_spec_l08Counts : Nat → Option PS := plk [(5, .v 0 (.v 1 (.v 2 (.v 3 (.v 4 (.v 5 (.v 6 (.v 7 (.v 8 (.v 9 (.v 10 (.x 11 [] (.done)))))))))))))]
theorem F_spec_l08Counts {args : List SV} {Li : List Row} {mv : List Nat} {cl : Bool} {Post : SV → List Row → Prop} (h : wpE Try.prog (lk tyList) pl_spec_l08Counts (bodyOf Try.f98) ⟨argT args, Lof Li, []⟩ (retE (lk tyList) Try.f98.results.toList Li.length mv cl Post)) (hN : args.length ≤ Try.f98.ntmps := by simp [Try.ntmps98]) :
  CallM Try.prog id_spec_l08Counts args Li mv cl Post := CallM.ofE T pl_spec_l08Counts Try.func98 (by kernel_rfl) rfl (by kernel_rfl) (by kernel_rfl) hN h
abbrev id_impl_opOK : FuncId := 105
def pl_impl_opOK : Nat → Option PS := plk [(1, .v 0 (.x 1 [] (.x 2 [] (.v 3 (.v 4 (.v 5 (.v 6 (.v 7 (.v 8 (.v 9 (.v 10 (.v 11 (.v 12 (.v 13 (.v 14 (.v 15 (.v 16 (.x 17 [] (.v 18 (.v 19 (.v 20 (.v 21 (.v 22 (.v 23 (.v 24 (.v 25 (.v 26 (.v 27 (.v 28 (.v 29 (.v 30 (.v 31 (.v 32 (.done)))))))))))))))))))))))))))))))))),
 (8, .v 0 (.v 1 (.v 2 (.v 3 (.v 4 (.x 5 [] (.v 6 (.v 7 (.v 8 (.v 9 (.v 10 (.x 11 [9, 8] (.x 12 [] (.v 13 (.v 14 (.v 15 (.done)))))))))))))))))]
theorem F_impl_opOK {args : List SV} {Li : List Row} {mv : List Nat} {cl : Bool} {Post : SV → List Row → Prop} (h : wpE Try.prog (lk tyList) pl_impl_opOK (bodyOf Try.f105) ⟨argT args, Lof Li, []⟩ (retE (lk tyList) Try.f105.results.toList Li.length mv cl Post)) (hN : args.length ≤ Try.f105.ntmps := by simp [Try.ntmps105]) :
  CallM Try.prog id_impl_opOK args Li mv cl Post := CallM.ofE T pl_impl_opOK Try.func105 (by kernel_rfl) rfl (by kernel_rfl) (by kernel_rfl) hN h
abbrev id_impl_book_put : FuncId := 109
def pl_impl_book_put : Nat → Option PS := plk [(1, .v 0 (.v 1 (.v 2 (.v 3 (.v 4 (.v 5 (.v 6 (.v 7 (.v 8 (.v 9 (.v 10 (.v 13 (.v 14 (.x 11 [14, 13, 9, 8, 7, 6, 5, 4, 3, 2, 1, 0] (.x 12 [14, 13, 2, 1, 0] (.v 15 (.x 16 [] (.done)))))))))))))))))),
 (2, .v 0 (.v 1 (.v 2 (.v 3 (.v 5 (.v 6 (.x 4 [6, 5, 2, 1, 0] (.v 7 (.x 8 [] (.done)))))))))),
 (4, .v 0 (.v 1 (.v 2 (.v 3 (.v 4 (.x 5 [3, 2, 1, 0] (.x 6 [] (.done))))))))]
theorem F_impl_book_put {args : List SV} {Li : List Row} {mv : List Nat} {cl : Bool} {Post : SV → List Row → Prop} (h : wpE Try.prog (lk tyList) pl_impl_book_put (bodyOf Try.f109) ⟨argT args, Lof Li, []⟩ (retE (lk tyList) Try.f109.results.toList Li.length mv cl Post)) (hN : args.length ≤ Try.f109.ntmps := by simp [Try.ntmps109]) :
  CallM Try.prog id_impl_book_put args Li mv cl Post := CallM.ofE T pl_impl_book_put Try.func109 (by kernel_rfl) rfl (by kernel_rfl) (by kernel_rfl) hN h
abbrev id_spec_l08OpOK : FuncId := 116
def pl_spec_l08OpOK : Nat → Option PS := plk [(2, .v 0 (.x 1 [] (.v 2 (.v 3 (.v 4 (.v 5 (.v 6 (.v 7 (.v 8 (.v 9 (.v 10 (.v 11 (.v 12 (.v 13 (.v 14 (.v 15 (.x 16 [] (.v 17 (.v 18 (.v 19 (.v 20 (.v 21 (.v 22 (.v 23 (.v 24 (.v 25 (.v 26 (.v 27 (.v 28 (.v 29 (.v 30 (.v 31 (.v 32 (.v 33 (.v 34 (.v 35 (.v 36 (.v 37 (.v 38 (.v 39 (.v 40 (.v 41 (.v 42 (.v 43 (.v 44 (.v 45 (.v 46 (.v 47 (.v 48 (.v 49 (.v 50 (.v 51 (.v 52 (.v 53 (.v 54 (.v 55 (.v 56 (.v 57 (.v 58 (.v 59 (.v 60 (.v 61 (.v 62 (.v 63 (.v 64 (.v 65 (.v 66 (.v 67 (.v 68 (.v 69 (.v 70 (.v 71 (.v 72 (.v 73 (.v 74 (.v 75 (.done)))))))))))))))))))))))))))))))))))))))))))))))))))))))))))))))))))))))))))))]
theorem F_spec_l08OpOK {args : List SV} {Li : List Row} {mv : List Nat} {cl : Bool} {Post : SV → List Row → Prop} (h : wpE Try.prog (lk tyList) pl_spec_l08OpOK (bodyOf Try.f116) ⟨argT args, Lof Li, []⟩ (retE (lk tyList) Try.f116.results.toList Li.length mv cl Post)) (hN : args.length ≤ Try.f116.ntmps := by simp [Try.ntmps116]) :
  CallM Try.prog id_spec_l08OpOK args Li mv cl Post := CallM.ofE T pl_spec_l08OpOK Try.func116 (by kernel_rfl) rfl (by kernel_rfl) (by kernel_rfl) hN h
abbrev id_spec_l08Find : FuncId := 117
def pl_spec_l08Find : Nat → Option PS := plk []
theorem F_spec_l08Find {args : List SV} {Li : List Row} {mv : List Nat} {cl : Bool} {Post : SV → List Row → Prop} (h : wpE Try.prog (lk tyList) pl_spec_l08Find (bodyOf Try.f117) ⟨argT args, Lof Li, []⟩ (retE (lk tyList) Try.f117.results.toList Li.length mv cl Post)) (hN : args.length ≤ Try.f117.ntmps := by simp [Try.ntmps117]) :
  CallM Try.prog id_spec_l08Find args Li mv cl Post := CallM.ofE T pl_spec_l08Find Try.func117 (by kernel_rfl) rfl (by kernel_rfl) (by kernel_rfl) hN h
abbrev id_spec_l08Causes : FuncId := 119
def pl_spec_l08Causes : Nat → Option PS := plk [(7, .v 0 (.v 1 (.v 2 (.v 3 (.v 4 (.v 5 (.v 6 (.v 11 (.x 7 [11, 3] (.v 8 (.v 9 (.x 10 [11] (.x 12 [] (.x 13 [] (.v 14 (.v 15 (.done)))))))))))))))))]
theorem F_spec_l08Causes {args : List SV} {Li : List Row} {mv : List Nat} {cl : Bool} {Post : SV → List Row → Prop} (h : wpE Try.prog (lk tyList) pl_spec_l08Causes (bodyOf Try.f119) ⟨argT args, Lof Li, []⟩ (retE (lk tyList) Try.f119.results.toList Li.length mv cl Post)) (hN : args.length ≤ Try.f119.ntmps := by simp [Try.ntmps119]) :
  CallM Try.prog id_spec_l08Causes args Li mv cl Post := CallM.ofE T pl_spec_l08Causes Try.func119 (by kernel_rfl) rfl (by kernel_rfl) (by kernel_rfl) hN h
abbrev id_spec_l08Thing : FuncId := 120
def pl_spec_l08Thing : Nat → Option PS := plk []
theorem F_spec_l08Thing {args : List SV} {Li : List Row} {mv : List Nat} {cl : Bool} {Post : SV → List Row → Prop} (h : wpE Try.prog (lk tyList) pl_spec_l08Thing (bodyOf Try.f120) ⟨argT args, Lof Li, []⟩ (retE (lk tyList) Try.f120.results.toList Li.length mv cl Post)) (hN : args.length ≤ Try.f120.ntmps := by simp [Try.ntmps120]) :
  CallM Try.prog id_spec_l08Thing args Li mv cl Post := CallM.ofE T pl_spec_l08Thing Try.func120 (by kernel_rfl) rfl (by kernel_rfl) (by kernel_rfl) hN h
abbrev id_laws_szVector : FuncId := 135
def pl_laws_szVector : Nat → Option PS := plk []
theorem F_laws_szVector {args : List SV} {Li : List Row} {mv : List Nat} {cl : Bool} {Post : SV → List Row → Prop} (h : wpE Try.prog (lk tyList) pl_laws_szVector (bodyOf Try.f135) ⟨argT args, Lof Li, []⟩ (retE (lk tyList) Try.f135.results.toList Li.length mv cl Post)) (hN : args.length ≤ Try.f135.ntmps := by simp [Try.ntmps135]) :
  CallM Try.prog id_laws_szVector args Li mv cl Post := CallM.ofE T pl_laws_szVector Try.func135 (by kernel_rfl) rfl (by kernel_rfl) (by kernel_rfl) hN h
abbrev id_spec_l01PutRuns : FuncId := 136
def pl_spec_l01PutRuns : Nat → Option PS := plk [(5, .v 0 (.v 1 (.v 2 (.v 3 (.v 4 (.v 5 (.v 6 (.v 7 (.v 8 (.v 9 (.v 10 (.v 11 (.v 12 (.v 13 (.v 14 (.v 15 (.v 16 (.v 17 (.v 18 (.v 19 (.v 20 (.v 21 (.v 22 (.v 23 (.v 24 (.v 25 (.v 26 (.v 27 (.v 28 (.v 29 (.v 30 (.v 31 (.v 32 (.done)))))))))))))))))))))))))))))))))),
 (10, .v 0 (.v 1 (.v 2 (.v 3 (.v 4 (.v 5 (.v 6 (.v 7 (.v 8 (.v 9 (.v 10 (.x 11 [0] (.x 12 [] (.v 13 (.done)))))))))))))))]
theorem F_spec_l01PutRuns {args : List SV} {Li : List Row} {mv : List Nat} {cl : Bool} {Post : SV → List Row → Prop} (h : wpE Try.prog (lk tyList) pl_spec_l01PutRuns (bodyOf Try.f136) ⟨argT args, Lof Li, []⟩ (retE (lk tyList) Try.f136.results.toList Li.length mv cl Post)) (hN : args.length ≤ Try.f136.ntmps := by simp [Try.ntmps136]) :
  CallM Try.prog id_spec_l01PutRuns args Li mv cl Post := CallM.ofE T pl_spec_l01PutRuns Try.func136 (by kernel_rfl) rfl (by kernel_rfl) (by kernel_rfl) hN h
abbrev id_spec_l01PutTexts : FuncId := 138
def pl_spec_l01PutTexts : Nat → Option PS := plk []
theorem F_spec_l01PutTexts {args : List SV} {Li : List Row} {mv : List Nat} {cl : Bool} {Post : SV → List Row → Prop} (h : wpE Try.prog (lk tyList) pl_spec_l01PutTexts (bodyOf Try.f138) ⟨argT args, Lof Li, []⟩ (retE (lk tyList) Try.f138.results.toList Li.length mv cl Post)) (hN : args.length ≤ Try.f138.ntmps := by simp [Try.ntmps138]) :
  CallM Try.prog id_spec_l01PutTexts args Li mv cl Post := CallM.ofE T pl_spec_l01PutTexts Try.func138 (by kernel_rfl) rfl (by kernel_rfl) (by kernel_rfl) hN h
abbrev id_laws_toVector : FuncId := 139
def pl_laws_toVector : Nat → Option PS := plk []
theorem F_laws_toVector {args : List SV} {Li : List Row} {mv : List Nat} {cl : Bool} {Post : SV → List Row → Prop} (h : wpE Try.prog (lk tyList) pl_laws_toVector (bodyOf Try.f139) ⟨argT args, Lof Li, []⟩ (retE (lk tyList) Try.f139.results.toList Li.length mv cl Post)) (hN : args.length ≤ Try.f139.ntmps := by simp [Try.ntmps139]) :
  CallM Try.prog id_laws_toVector args Li mv cl Post := CallM.ofE T pl_laws_toVector Try.func139 (by kernel_rfl) rfl (by kernel_rfl) (by kernel_rfl) hN h
abbrev id_laws_toStamp : FuncId := 140
def pl_laws_toStamp : Nat → Option PS := plk []
theorem F_laws_toStamp {args : List SV} {Li : List Row} {mv : List Nat} {cl : Bool} {Post : SV → List Row → Prop} (h : wpE Try.prog (lk tyList) pl_laws_toStamp (bodyOf Try.f140) ⟨argT args, Lof Li, []⟩ (retE (lk tyList) Try.f140.results.toList Li.length mv cl Post)) (hN : args.length ≤ Try.f140.ntmps := by simp [Try.ntmps140]) :
  CallM Try.prog id_laws_toStamp args Li mv cl Post := CallM.ofE T pl_laws_toStamp Try.func140 (by kernel_rfl) rfl (by kernel_rfl) (by kernel_rfl) hN h
abbrev id_impl_Op_numbers : FuncId := 141
def pl_impl_Op_numbers : Nat → Option PS := plk [(1, .v 0 (.v 1 (.v 2 (.v 3 (.v 4 (.v 5 (.v 6 (.v 7 (.v 8 (.v 9 (.v 10 (.v 11 (.v 13 (.v 14 (.v 15 (.v 16 (.v 17 (.v 18 (.v 19 (.v 20 (.x 12 [20, 19, 18, 17, 16, 15, 14, 13, 9, 8, 7, 6, 5, 4, 3, 2, 1, 0] (.v 21 (.x 22 [] (.done))))))))))))))))))))))))]
theorem F_impl_Op_numbers {args : List SV} {Li : List Row} {mv : List Nat} {cl : Bool} {Post : SV → List Row → Prop} (h : wpE Try.prog (lk tyList) pl_impl_Op_numbers (bodyOf Try.f141) ⟨argT args, Lof Li, []⟩ (retE (lk tyList) Try.f141.results.toList Li.length mv cl Post)) (hN : args.length ≤ Try.f141.ntmps := by simp [Try.ntmps141]) :
  CallM Try.prog id_impl_Op_numbers args Li mv cl Post := CallM.ofE T pl_impl_Op_numbers Try.func141 (by kernel_rfl) rfl (by kernel_rfl) (by kernel_rfl) hN h
abbrev id_impl_appendRuns : FuncId := 142
def pl_impl_appendRuns : Nat → Option PS := plk [(8, .v 0 (.v 1 (.v 2 (.v 3 (.v 4 (.v 5 (.v 6 (.v 7 (.v 8 (.v 9 (.v 10 (.x 11 [0] (.x 12 [] (.v 13 (.done)))))))))))))))]
theorem F_impl_appendRuns {args : List SV} {Li : List Row} {mv : List Nat} {cl : Bool} {Post : SV → List Row → Prop} (h : wpE Try.prog (lk tyList) pl_impl_appendRuns (bodyOf Try.f142) ⟨argT args, Lof Li, []⟩ (retE (lk tyList) Try.f142.results.toList Li.length mv cl Post)) (hN : args.length ≤ Try.f142.ntmps := by simp [Try.ntmps142]) :
  CallM Try.prog id_impl_appendRuns args Li mv cl Post := CallM.ofE T pl_impl_appendRuns Try.func142 (by kernel_rfl) rfl (by kernel_rfl) (by kernel_rfl) hN h
abbrev id_impl_appendTexts : FuncId := 143
def pl_impl_appendTexts : Nat → Option PS := plk []
theorem F_impl_appendTexts {args : List SV} {Li : List Row} {mv : List Nat} {cl : Bool} {Post : SV → List Row → Prop} (h : wpE Try.prog (lk tyList) pl_impl_appendTexts (bodyOf Try.f143) ⟨argT args, Lof Li, []⟩ (retE (lk tyList) Try.f143.results.toList Li.length mv cl Post)) (hN : args.length ≤ Try.f143.ntmps := by simp [Try.ntmps143]) :
  CallM Try.prog id_impl_appendTexts args Li mv cl Post := CallM.ofE T pl_impl_appendTexts Try.func143 (by kernel_rfl) rfl (by kernel_rfl) (by kernel_rfl) hN h
abbrev id_laws_eqVector : FuncId := 144
def pl_laws_eqVector : Nat → Option PS := plk []
theorem F_laws_eqVector {args : List SV} {Li : List Row} {mv : List Nat} {cl : Bool} {Post : SV → List Row → Prop} (h : wpE Try.prog (lk tyList) pl_laws_eqVector (bodyOf Try.f144) ⟨argT args, Lof Li, []⟩ (retE (lk tyList) Try.f144.results.toList Li.length mv cl Post)) (hN : args.length ≤ Try.f144.ntmps := by simp [Try.ntmps144]) :
  CallM Try.prog id_laws_eqVector args Li mv cl Post := CallM.ofE T pl_laws_eqVector Try.func144 (by kernel_rfl) rfl (by kernel_rfl) (by kernel_rfl) hN h
abbrev id_laws_eqStamp : FuncId := 145
def pl_laws_eqStamp : Nat → Option PS := plk []
theorem F_laws_eqStamp {args : List SV} {Li : List Row} {mv : List Nat} {cl : Bool} {Post : SV → List Row → Prop} (h : wpE Try.prog (lk tyList) pl_laws_eqStamp (bodyOf Try.f145) ⟨argT args, Lof Li, []⟩ (retE (lk tyList) Try.f145.results.toList Li.length mv cl Post)) (hN : args.length ≤ Try.f145.ntmps := by simp [Try.ntmps145]) :
  CallM Try.prog id_laws_eqStamp args Li mv cl Post := CallM.ofE T pl_laws_eqStamp Try.func145 (by kernel_rfl) rfl (by kernel_rfl) (by kernel_rfl) hN h
abbrev id_spec_l12Bytes : FuncId := 146
def pl_spec_l12Bytes : Nat → Option PS := plk [(1, .v 0 (.v 1 (.v 2 (.v 3 (.v 4 (.v 5 (.v 6 (.v 7 (.v 8 (.v 9 (.v 10 (.v 11 (.v 13 (.v 14 (.v 15 (.v 16 (.v 17 (.v 18 (.v 19 (.v 20 (.x 12 [20, 19, 18, 17, 16, 15, 14, 13, 9, 8, 7, 6, 5, 4, 3, 2, 1, 0] (.x 21 [] (.v 22 (.done)))))))))))))))))))))))),
 (3, .v 0 (.v 2 (.v 3 (.v 4 (.v 5 (.or (.x 1 [5, 4, 3, 2] (.x 6 [] (.x 7 [] (.x 8 [] (.v 9 (.done)))))) (.x 6 [0] (.x 1 [] (.x 7 [] (.x 8 [] (.v 9 (.done))))))))))))]
theorem F_spec_l12Bytes {args : List SV} {Li : List Row} {mv : List Nat} {cl : Bool} {Post : SV → List Row → Prop} (h : wpE Try.prog (lk tyList) pl_spec_l12Bytes (bodyOf Try.f146) ⟨argT args, Lof Li, []⟩ (retE (lk tyList) Try.f146.results.toList Li.length mv cl Post)) (hN : args.length ≤ Try.f146.ntmps := by simp [Try.ntmps146]) :
  CallM Try.prog id_spec_l12Bytes args Li mv cl Post := CallM.ofE T pl_spec_l12Bytes Try.func146 (by kernel_rfl) rfl (by kernel_rfl) (by kernel_rfl) hN h
abbrev id_impl_Op_thing : FuncId := 147
def pl_impl_Op_thing : Nat → Option PS := plk []
theorem F_impl_Op_thing {args : List SV} {Li : List Row} {mv : List Nat} {cl : Bool} {Post : SV → List Row → Prop} (h : wpE Try.prog (lk tyList) pl_impl_Op_thing (bodyOf Try.f147) ⟨argT args, Lof Li, []⟩ (retE (lk tyList) Try.f147.results.toList Li.length mv cl Post)) (hN : args.length ≤ Try.f147.ntmps := by simp [Try.ntmps147]) :
  CallM Try.prog id_impl_Op_thing args Li mv cl Post := CallM.ofE T pl_impl_Op_thing Try.func147 (by kernel_rfl) rfl (by kernel_rfl) (by kernel_rfl) hN h
abbrev id_impl_StampLess : FuncId := 148
def pl_impl_StampLess : Nat → Option PS := plk []
theorem F_impl_StampLess {args : List SV} {Li : List Row} {mv : List Nat} {cl : Bool} {Post : SV → List Row → Prop} (h : wpE Try.prog (lk tyList) pl_impl_StampLess (bodyOf Try.f148) ⟨argT args, Lof Li, []⟩ (retE (lk tyList) Try.f148.results.toList Li.length mv cl Post)) (hN : args.length ≤ Try.f148.ntmps := by simp [Try.ntmps148]) :
  CallM Try.prog id_impl_StampLess args Li mv cl Post := CallM.ofE T pl_impl_StampLess Try.func148 (by kernel_rfl) rfl (by kernel_rfl) (by kernel_rfl) hN h
abbrev id_impl_Op_stamp : FuncId := 149
def pl_impl_Op_stamp : Nat → Option PS := plk []
theorem F_impl_Op_stamp {args : List SV} {Li : List Row} {mv : List Nat} {cl : Bool} {Post : SV → List Row → Prop} (h : wpE Try.prog (lk tyList) pl_impl_Op_stamp (bodyOf Try.f149) ⟨argT args, Lof Li, []⟩ (retE (lk tyList) Try.f149.results.toList Li.length mv cl Post)) (hN : args.length ≤ Try.f149.ntmps := by simp [Try.ntmps149]) :
  CallM Try.prog id_impl_Op_stamp args Li mv cl Post := CallM.ofE T pl_impl_Op_stamp Try.func149 (by kernel_rfl) rfl (by kernel_rfl) (by kernel_rfl) hN h
abbrev id_impl_sum32 : FuncId := 150
def pl_impl_sum32 : Nat → Option PS := plk []
theorem F_impl_sum32 {args : List SV} {Li : List Row} {mv : List Nat} {cl : Bool} {Post : SV → List Row → Prop} (h : wpE Try.prog (lk tyList) pl_impl_sum32 (bodyOf Try.f150) ⟨argT args, Lof Li, []⟩ (retE (lk tyList) Try.f150.results.toList Li.length mv cl Post)) (hN : args.length ≤ Try.f150.ntmps := by simp [Try.ntmps150]) :
  CallM Try.prog id_impl_sum32 args Li mv cl Post := CallM.ofE T pl_impl_sum32 Try.func150 (by kernel_rfl) rfl (by kernel_rfl) (by kernel_rfl) hN h
abbrev id_impl_opBytes : FuncId := 151
def pl_impl_opBytes : Nat → Option PS := plk [(2, .v 0 (.v 1 (.v 2 (.v 3 (.x 4 [] (.x 5 [] (.v 6 (.done))))))))]
theorem F_impl_opBytes {args : List SV} {Li : List Row} {mv : List Nat} {cl : Bool} {Post : SV → List Row → Prop} (h : wpE Try.prog (lk tyList) pl_impl_opBytes (bodyOf Try.f151) ⟨argT args, Lof Li, []⟩ (retE (lk tyList) Try.f151.results.toList Li.length mv cl Post)) (hN : args.length ≤ Try.f151.ntmps := by simp [Try.ntmps151]) :
  CallM Try.prog id_impl_opBytes args Li mv cl Post := CallM.ofE T pl_impl_opBytes Try.func151 (by kernel_rfl) rfl (by kernel_rfl) (by kernel_rfl) hN h
abbrev id_spec_l01Alike : FuncId := 155
def pl_spec_l01Alike : Nat → Option PS := plk [(2, .v 0 (.v 1 (.v 2 (.v 3 (.v 4 (.v 5 (.v 6 (.v 7 (.v 8 (.v 9 (.v 10 (.v 11 (.v 12 (.v 13 (.v 14 (.v 15 (.v 16 (.v 17 (.v 18 (.done))))))))))))))))))))]
theorem F_spec_l01Alike {args : List SV} {Li : List Row} {mv : List Nat} {cl : Bool} {Post : SV → List Row → Prop} (h : wpE Try.prog (lk tyList) pl_spec_l01Alike (bodyOf Try.f155) ⟨argT args, Lof Li, []⟩ (retE (lk tyList) Try.f155.results.toList Li.length mv cl Post)) (hN : args.length ≤ Try.f155.ntmps := by simp [Try.ntmps155]) :
  CallM Try.prog id_spec_l01Alike args Li mv cl Post := CallM.ofE T pl_spec_l01Alike Try.func155 (by kernel_rfl) rfl (by kernel_rfl) (by kernel_rfl) hN h
abbrev id_impl_common : FuncId := 159
def pl_impl_common : Nat → Option PS := plk [(2, .v 0 (.v 1 (.v 2 (.v 3 (.v 4 (.v 5 (.v 6 (.v 7 (.v 8 (.v 9 (.v 10 (.v 11 (.v 12 (.v 13 (.v 14 (.v 15 (.v 16 (.v 17 (.v 18 (.done))))))))))))))))))))]
theorem F_impl_common {args : List SV} {Li : List Row} {mv : List Nat} {cl : Bool} {Post : SV → List Row → Prop} (h : wpE Try.prog (lk tyList) pl_impl_common (bodyOf Try.f159) ⟨argT args, Lof Li, []⟩ (retE (lk tyList) Try.f159.results.toList Li.length mv cl Post)) (hN : args.length ≤ Try.f159.ntmps := by simp [Try.ntmps159]) :
  CallM Try.prog id_impl_common args Li mv cl Post := CallM.ofE T pl_impl_common Try.func159 (by kernel_rfl) rfl (by kernel_rfl) (by kernel_rfl) hN h
abbrev id_spec_l02New : FuncId := 164
def pl_spec_l02New : Nat → Option PS := plk []
theorem F_spec_l02New {args : List SV} {Li : List Row} {mv : List Nat} {cl : Bool} {Post : SV → List Row → Prop} (h : wpE Try.prog (lk tyList) pl_spec_l02New (bodyOf Try.f164) ⟨argT args, Lof Li, []⟩ (retE (lk tyList) Try.f164.results.toList Li.length mv cl Post)) (hN : args.length ≤ Try.f164.ntmps := by simp [Try.ntmps164]) :
  CallM Try.prog id_spec_l02New args Li mv cl Post := CallM.ofE T pl_spec_l02New Try.func164 (by kernel_rfl) rfl (by kernel_rfl) (by kernel_rfl) hN h
abbrev id_impl_StampOK : FuncId := 165
def pl_impl_StampOK : Nat → Option PS := plk []
theorem F_impl_StampOK {args : List SV} {Li : List Row} {mv : List Nat} {cl : Bool} {Post : SV → List Row → Prop} (h : wpE Try.prog (lk tyList) pl_impl_StampOK (bodyOf Try.f165) ⟨argT args, Lof Li, []⟩ (retE (lk tyList) Try.f165.results.toList Li.length mv cl Post)) (hN : args.length ≤ Try.f165.ntmps := by simp [Try.ntmps165]) :
  CallM Try.prog id_impl_StampOK args Li mv cl Post := CallM.ofE T pl_impl_StampOK Try.func165 (by kernel_rfl) rfl (by kernel_rfl) (by kernel_rfl) hN h
abbrev id_impl_charOK : FuncId := 166
def pl_impl_charOK : Nat → Option PS := plk []
theorem F_impl_charOK {args : List SV} {Li : List Row} {mv : List Nat} {cl : Bool} {Post : SV → List Row → Prop} (h : wpE Try.prog (lk tyList) pl_impl_charOK (bodyOf Try.f166) ⟨argT args, Lof Li, []⟩ (retE (lk tyList) Try.f166.results.toList Li.length mv cl Post)) (hN : args.length ≤ Try.f166.ntmps := by simp [Try.ntmps166]) :
  CallM Try.prog id_impl_charOK args Li mv cl Post := CallM.ofE T pl_impl_charOK Try.func166 (by kernel_rfl) rfl (by kernel_rfl) (by kernel_rfl) hN h
abbrev id_spec_l08Stamp : FuncId := 173
def pl_spec_l08Stamp : Nat → Option PS := plk []
theorem F_spec_l08Stamp {args : List SV} {Li : List Row} {mv : List Nat} {cl : Bool} {Post : SV → List Row → Prop} (h : wpE Try.prog (lk tyList) pl_spec_l08Stamp (bodyOf Try.f173) ⟨argT args, Lof Li, []⟩ (retE (lk tyList) Try.f173.results.toList Li.length mv cl Post)) (hN : args.length ≤ Try.f173.ntmps := by simp [Try.ntmps173]) :
  CallM Try.prog id_spec_l08Stamp args Li mv cl Post := CallM.ofE T pl_spec_l08Stamp Try.func173 (by kernel_rfl) rfl (by kernel_rfl) (by kernel_rfl) hN h
abbrev id_spec_StampOK : FuncId := 174
def pl_spec_StampOK : Nat → Option PS := plk []
theorem F_spec_StampOK {args : List SV} {Li : List Row} {mv : List Nat} {cl : Bool} {Post : SV → List Row → Prop} (h : wpE Try.prog (lk tyList) pl_spec_StampOK (bodyOf Try.f174) ⟨argT args, Lof Li, []⟩ (retE (lk tyList) Try.f174.results.toList Li.length mv cl Post)) (hN : args.length ≤ Try.f174.ntmps := by simp [Try.ntmps174]) :
  CallM Try.prog id_spec_StampOK args Li mv cl Post := CallM.ofE T pl_spec_StampOK Try.func174 (by kernel_rfl) rfl (by kernel_rfl) (by kernel_rfl) hN h
abbrev id_spec_l02None : FuncId := 175
def pl_spec_l02None : Nat → Option PS := plk []
theorem F_spec_l02None {args : List SV} {Li : List Row} {mv : List Nat} {cl : Bool} {Post : SV → List Row → Prop} (h : wpE Try.prog (lk tyList) pl_spec_l02None (bodyOf Try.f175) ⟨argT args, Lof Li, []⟩ (retE (lk tyList) Try.f175.results.toList Li.length mv cl Post)) (hN : args.length ≤ Try.f175.ntmps := by simp [Try.ntmps175]) :
  CallM Try.prog id_spec_l02None args Li mv cl Post := CallM.ofE T pl_spec_l02None Try.func175 (by kernel_rfl) rfl (by kernel_rfl) (by kernel_rfl) hN h
abbrev id_spec_StampLess : FuncId := 176
def pl_spec_StampLess : Nat → Option PS := plk []
theorem F_spec_StampLess {args : List SV} {Li : List Row} {mv : List Nat} {cl : Bool} {Post : SV → List Row → Prop} (h : wpE Try.prog (lk tyList) pl_spec_StampLess (bodyOf Try.f176) ⟨argT args, Lof Li, []⟩ (retE (lk tyList) Try.f176.results.toList Li.length mv cl Post)) (hN : args.length ≤ Try.f176.ntmps := by simp [Try.ntmps176]) :
  CallM Try.prog id_spec_StampLess args Li mv cl Post := CallM.ofE T pl_spec_StampLess Try.func176 (by kernel_rfl) rfl (by kernel_rfl) (by kernel_rfl) hN h
abbrev id_spec_l04Char : FuncId := 177
def pl_spec_l04Char : Nat → Option PS := plk []
theorem F_spec_l04Char {args : List SV} {Li : List Row} {mv : List Nat} {cl : Bool} {Post : SV → List Row → Prop} (h : wpE Try.prog (lk tyList) pl_spec_l04Char (bodyOf Try.f177) ⟨argT args, Lof Li, []⟩ (retE (lk tyList) Try.f177.results.toList Li.length mv cl Post)) (hN : args.length ≤ Try.f177.ntmps := by simp [Try.ntmps177]) :
  CallM Try.prog id_spec_l04Char args Li mv cl Post := CallM.ofE T pl_spec_l04Char Try.func177 (by kernel_rfl) rfl (by kernel_rfl) (by kernel_rfl) hN h
abbrev id_impl_appendInt : FuncId := 181
def pl_impl_appendInt : Nat → Option PS := plk []
theorem F_impl_appendInt {args : List SV} {Li : List Row} {mv : List Nat} {cl : Bool} {Post : SV → List Row → Prop} (h : wpE Try.prog (lk tyList) pl_impl_appendInt (bodyOf Try.f181) ⟨argT args, Lof Li, []⟩ (retE (lk tyList) Try.f181.results.toList Li.length mv cl Post)) (hN : args.length ≤ Try.f181.ntmps := by simp [Try.ntmps181]) :
  CallM Try.prog id_impl_appendInt args Li mv cl Post := CallM.ofE T pl_impl_appendInt Try.func181 (by kernel_rfl) rfl (by kernel_rfl) (by kernel_rfl) hN h
abbrev id_spec_l01Put : FuncId := 182
def pl_spec_l01Put : Nat → Option PS := plk []
theorem F_spec_l01Put {args : List SV} {Li : List Row} {mv : List Nat} {cl : Bool} {Post : SV → List Row → Prop} (h : wpE Try.prog (lk tyList) pl_spec_l01Put (bodyOf Try.f182) ⟨argT args, Lof Li, []⟩ (retE (lk tyList) Try.f182.results.toList Li.length mv cl Post)) (hN : args.length ≤ Try.f182.ntmps := by simp [Try.ntmps182]) :
  CallM Try.prog id_spec_l01Put args Li mv cl Post := CallM.ofE T pl_spec_l01Put Try.func182 (by kernel_rfl) rfl (by kernel_rfl) (by kernel_rfl) hN h
abbrev id_laws_szIntS : FuncId := 190
def pl_laws_szIntS : Nat → Option PS := plk []
theorem F_laws_szIntS {args : List SV} {Li : List Row} {mv : List Nat} {cl : Bool} {Post : SV → List Row → Prop} (h : wpE Try.prog (lk tyList) pl_laws_szIntS (bodyOf Try.f190) ⟨argT args, Lof Li, []⟩ (retE (lk tyList) Try.f190.results.toList Li.length mv cl Post)) (hN : args.length ≤ Try.f190.ntmps := by simp [Try.ntmps190]) :
  CallM Try.prog id_laws_szIntS args Li mv cl Post := CallM.ofE T pl_laws_szIntS Try.func190 (by kernel_rfl) rfl (by kernel_rfl) (by kernel_rfl) hN h
abbrev id_spec_l01Signed : FuncId := 191
def pl_spec_l01Signed : Nat → Option PS := plk []
theorem F_spec_l01Signed {args : List SV} {Li : List Row} {mv : List Nat} {cl : Bool} {Post : SV → List Row → Prop} (h : wpE Try.prog (lk tyList) pl_spec_l01Signed (bodyOf Try.f191) ⟨argT args, Lof Li, []⟩ (retE (lk tyList) Try.f191.results.toList Li.length mv cl Post)) (hN : args.length ≤ Try.f191.ntmps := by simp [Try.ntmps191]) :
  CallM Try.prog id_spec_l01Signed args Li mv cl Post := CallM.ofE T pl_spec_l01Signed Try.func191 (by kernel_rfl) rfl (by kernel_rfl) (by kernel_rfl) hN h
abbrev id_spec_l08Sign : FuncId := 192
def pl_spec_l08Sign : Nat → Option PS := plk []
theorem F_spec_l08Sign {args : List SV} {Li : List Row} {mv : List Nat} {cl : Bool} {Post : SV → List Row → Prop} (h : wpE Try.prog (lk tyList) pl_spec_l08Sign (bodyOf Try.f192) ⟨argT args, Lof Li, []⟩ (retE (lk tyList) Try.f192.results.toList Li.length mv cl Post)) (hN : args.length ≤ Try.f192.ntmps := by simp [Try.ntmps192]) :
  CallM Try.prog id_spec_l08Sign args Li mv cl Post := CallM.ofE T pl_spec_l08Sign Try.func192 (by kernel_rfl) rfl (by kernel_rfl) (by kernel_rfl) hN h
abbrev id_laws_toIntS : FuncId := 193
def pl_laws_toIntS : Nat → Option PS := plk []
theorem F_laws_toIntS {args : List SV} {Li : List Row} {mv : List Nat} {cl : Bool} {Post : SV → List Row → Prop} (h : wpE Try.prog (lk tyList) pl_laws_toIntS (bodyOf Try.f193) ⟨argT args, Lof Li, []⟩ (retE (lk tyList) Try.f193.results.toList Li.length mv cl Post)) (hN : args.length ≤ Try.f193.ntmps := by simp [Try.ntmps193]) :
  CallM Try.prog id_laws_toIntS args Li mv cl Post := CallM.ofE T pl_laws_toIntS Try.func193 (by kernel_rfl) rfl (by kernel_rfl) (by kernel_rfl) hN h
abbrev id_impl_zig : FuncId := 194
def pl_impl_zig : Nat → Option PS := plk []
theorem F_impl_zig {args : List SV} {Li : List Row} {mv : List Nat} {cl : Bool} {Post : SV → List Row → Prop} (h : wpE Try.prog (lk tyList) pl_impl_zig (bodyOf Try.f194) ⟨argT args, Lof Li, []⟩ (retE (lk tyList) Try.f194.results.toList Li.length mv cl Post)) (hN : args.length ≤ Try.f194.ntmps := by simp [Try.ntmps194]) :
  CallM Try.prog id_impl_zig args Li mv cl Post := CallM.ofE T pl_impl_zig Try.func194 (by kernel_rfl) rfl (by kernel_rfl) (by kernel_rfl) hN h
abbrev id_impl_runLen : FuncId := 195
def pl_impl_runLen : Nat → Option PS := plk [(3, .v 0 (.v 1 (.v 2 (.v 3 (.v 4 (.v 5 (.v 6 (.v 7 (.v 8 (.v 9 (.v 10 (.done)))))))))))),
 (5, .v 0 (.v 1 (.v 2 (.v 3 (.v 4 (.v 5 (.v 6 (.v 7 (.v 8 (.v 9 (.v 10 (.v 11 (.v 12 (.v 13 (.v 14 (.v 15 (.v 16 (.v 17 (.v 18 (.v 19 (.v 20 (.v 21 (.v 22 (.v 23 (.done)))))))))))))))))))))))))]
theorem F_impl_runLen {args : List SV} {Li : List Row} {mv : List Nat} {cl : Bool} {Post : SV → List Row → Prop} (h : wpE Try.prog (lk tyList) pl_impl_runLen (bodyOf Try.f195) ⟨argT args, Lof Li, []⟩ (retE (lk tyList) Try.f195.results.toList Li.length mv cl Post)) (hN : args.length ≤ Try.f195.ntmps := by simp [Try.ntmps195]) :
  CallM Try.prog id_impl_runLen args Li mv cl Post := CallM.ofE T pl_impl_runLen Try.func195 (by kernel_rfl) rfl (by kernel_rfl) (by kernel_rfl) hN h
abbrev id_laws_eqIntS : FuncId := 196
def pl_laws_eqIntS : Nat → Option PS := plk [(6, .v 0 (.v 1 (.v 2 (.v 3 (.v 4 (.v 5 (.v 6 (.v 7 (.v 8 (.done))))))))))]
theorem F_laws_eqIntS {args : List SV} {Li : List Row} {mv : List Nat} {cl : Bool} {Post : SV → List Row → Prop} (h : wpE Try.prog (lk tyList) pl_laws_eqIntS (bodyOf Try.f196) ⟨argT args, Lof Li, []⟩ (retE (lk tyList) Try.f196.results.toList Li.length mv cl Post)) (hN : args.length ≤ Try.f196.ntmps := by simp [Try.ntmps196]) :
  CallM Try.prog id_laws_eqIntS args Li mv cl Post := CallM.ofE T pl_laws_eqIntS Try.func196 (by kernel_rfl) rfl (by kernel_rfl) (by kernel_rfl) hN h
end Go.Proofs.Ytpdjehnlejjfmaa.D
/- Vectors of counts: told to be in order, joined, copied. -/
namespace Go.Proofs.Ytpdjehnlejjfmaa.D
open Go.RowKit
set_option maxRecDepth 100000
set_option linter.unusedVariables false
set_option linter.unusedSimpArgs false
theorem all_next {α : Type} {p : α → Prop} {l : List α} {i : Nat} (h : i < l.length) (ha : ∀ c ∈ l.take i, p c) (hp : p l[i]) : ∀ c ∈ l.take (i + 1), p c := by
 rw [List.take_succ_eq_append_getElem h]
 intro c hc
 rcases List.mem_append.1 hc with h1 | h1
 ·exact ha c h1
 ·simp at h1; subst h1; exact hp
theorem all_end {α : Type} {p : α → Prop} {l : List α} {i : Nat} (ha : ∀ c ∈ l.take i, p c) (h : l.length ≤ i) : ∀ c ∈ l, p c := by
 rwa [List.take_of_length_le h] at ha
theorem not_all {α : Type} {p : α → Prop} {l : List α} {i : Nat} (h : i < l.length) (hp : ¬ p l[i]) : ¬ ∀ c ∈ l, p c := fun ha => hp (ha _ (List.getElem_mem h))
theorem all_nil {α : Type} {p : α → Prop} {l : List α} : ∀ c ∈ l.take 0, p c := by simp
abbrev cntOk (c : Int) : Prop := 0 ≤ c ∧ c ≤ 1000000000000
def VecOk (v : List Int) : Prop := v.length = 16 ∧ ∀ c ∈ v, cntOk c
instance (v : List Int) : Decidable (VecOk v) := by unfold VecOk; infer_instance
abbrev vV (v : List Int) : SV := .agg [cN v]
theorem vecNot {v : List Int} {i : Nat} (h : i < v.length) (h2 : ¬ cntOk v[i]) : decide (VecOk v) = false := by
 have : ¬ VecOk v := fun h3 => not_all h h2 h3.2
 simp [this]
theorem vecNo {v : List Int} (h : v.length ≠ 16) : decide (VecOk v) = false := by
 have : ¬ VecOk v := fun h3 => h h3.1
 simp [this]
theorem vecYes {v : List Int} {i : Nat} (h : v.length = 16) (h2 : ∀ c ∈ v.take i, cntOk c) (hi : 16 ≤ i) : decide (VecOk v) = true := by
 have : VecOk v := ⟨h, all_end h2 (by omega)⟩
 simp [this]
theorem s_VecOK (v : List Int) : CallD Try.prog id_spec_VecOK [vV v] [] (vB (decide (VecOk v))) [] := by
 refine F_spec_VecOK ?_
 try (conv => whnf)
 repeat' (first
  | (refine Pick.mk ?_ ?_ ?_; rotate_left; (focus (exact List.length_map _)); conv => whnf)
  | (refine SeqJ.thru ?_; conv => whnf)
  | (refine br_dec (fun _ => ?_) (fun _ => ?_) <;> first | (exfalso; omega) | contradiction | conv => whnf)
  | (refine br_not ?_; conv => whnf)
  | (refine br_bne (fun _ => ?_) (fun _ => ?_) <;> first | (exfalso; omega) | contradiction | conv => whnf)
  | (refine br_beq (fun _ => ?_) (fun _ => ?_) <;> first | (exfalso; omega) | contradiction | conv => whnf))
 ·refine LoopE.mk (fun i : Nat => mk [(3, vI .i64 i), (1, .one (.ptr 4096 0))] [(4096, .box [cN v])]) (fun i => i ≤ 16 ∧ ∀ c ∈ v.take i, cntOk c) (fun i => 16 - i) 0 ⟨by omega, all_nil⟩ (LeX.of ?_) ?_
  ·try (conv => whnf)
   repeat (refine Need.mk ?_ ?_; (focus (first | omega | (simp; done))); conv => whnf)
   trivial
  ·rintro i ⟨hi, ha⟩
   try (conv => whnf)
   repeat' (first
    | (refine Pick.mk ?_ ?_ ?_; rotate_left; (focus (first | (refine wid ?_ ?_ <;> omega) | (refine pick_nat _ _ _ ?_; omega))); conv => whnf)
    | (refine SeqJ.thru ?_; conv => whnf)
    | (refine br_dec (fun _ => ?_) (fun _ => ?_) <;> first | (exfalso; omega) | contradiction | conv => whnf)
    | (refine br_not ?_; conv => whnf)
    | (refine br_bne (fun _ => ?_) (fun _ => ?_) <;> first | (exfalso; omega) | contradiction | conv => whnf)
    | (refine br_beq (fun _ => ?_) (fun _ => ?_) <;> first | (exfalso; omega) | contradiction | conv => whnf))
   ·refine Out.mk true [] [] ?_
    try (conv => whnf)
    exact ⟨by rw [vecNot (i := i) (by omega) (by simp only [cntOk]; omega)], rfl⟩
   ·refine Out.mk true [] [] ?_
    try (conv => whnf)
    exact ⟨by rw [vecNot (i := i) (by omega) (by simp only [cntOk]; omega)], rfl⟩
   ·refine Pick.mk (i + 1) ⟨⟨by omega, all_next (by omega) ha (by simp only [cntOk]; omega)⟩, by omega⟩ (LeX.of ?_)
    try (conv => whnf)
    repeat (refine Need.mk ?_ ?_; (focus (first | omega | (simp; done))); conv => whnf)
    trivial
   ·refine Out.mk true [] [] ?_
    try (conv => whnf)
    exact ⟨by rw [vecYes (by omega) ha (by omega)], rfl⟩
 ·refine Out.mk true [] [] ?_
  try (conv => whnf)
  exact ⟨by rw [vecNo (by omega)], rfl⟩
theorem i_VecOK (v : List Int) : CallD Try.prog id_impl_VecOK [vV v] [] (vB (decide (VecOk v))) [] := by
 refine F_impl_VecOK ?_
 try (conv => whnf)
 repeat' (first
  | (refine Pick.mk ?_ ?_ ?_; rotate_left; (focus (exact List.length_map _)); conv => whnf)
  | (refine SeqJ.thru ?_; conv => whnf)
  | (refine br_dec (fun _ => ?_) (fun _ => ?_) <;> first | (exfalso; omega) | contradiction | conv => whnf)
  | (refine br_not ?_; conv => whnf)
  | (refine br_bne (fun _ => ?_) (fun _ => ?_) <;> first | (exfalso; omega) | contradiction | conv => whnf)
  | (refine br_beq (fun _ => ?_) (fun _ => ?_) <;> first | (exfalso; omega) | contradiction | conv => whnf))
 ·refine LoopE.mk (fun i : Nat => mk [(12, vI .i64 i), (11, vI .i64 v.length), (10, vN v), (1, .one (.ptr 4096 0))] [(4096, .box [cN v])]) (fun i => i ≤ 16 ∧ ∀ c ∈ v.take i, cntOk c) (fun i => 16 - i) 0 ⟨by omega, all_nil⟩ (LeX.of ?_) ?_
  ·try (conv => whnf)
   repeat (refine Need.mk ?_ ?_; (focus (first | omega | (simp; done))); conv => whnf)
   trivial
  ·rintro i ⟨hi, ha⟩
   try (conv => whnf)
   repeat' (first
    | (refine Pick.mk ?_ ?_ ?_; rotate_left; (focus (first | (refine wid ?_ ?_ <;> omega) | (refine pick_nat _ _ _ ?_; omega))); conv => whnf)
    | (refine SeqJ.thru ?_; conv => whnf)
    | (refine br_dec (fun _ => ?_) (fun _ => ?_) <;> first | (exfalso; omega) | contradiction | conv => whnf)
    | (refine br_not ?_; conv => whnf)
    | (refine br_bne (fun _ => ?_) (fun _ => ?_) <;> first | (exfalso; omega) | contradiction | conv => whnf)
    | (refine br_beq (fun _ => ?_) (fun _ => ?_) <;> first | (exfalso; omega) | contradiction | conv => whnf))
   ·refine Out.mk true [] [] ?_
    try (conv => whnf)
    exact ⟨by rw [vecNot (i := i) (by omega) (by simp only [cntOk]; omega)], rfl⟩
   ·refine Out.mk true [] [] ?_
    try (conv => whnf)
    exact ⟨by rw [vecNot (i := i) (by omega) (by simp only [cntOk]; omega)], rfl⟩
   ·refine Pick.mk (i + 1) ⟨⟨by omega, all_next (by omega) ha (by simp only [cntOk]; omega)⟩, by omega⟩ (LeX.of ?_)
    try (conv => whnf)
    repeat (refine Need.mk ?_ ?_; (focus (first | omega | (simp; done))); conv => whnf)
    trivial
   ·refine Out.mk true [] [] ?_
    try (conv => whnf)
    exact ⟨by rw [vecYes (by omega) ha (by omega)], rfl⟩
 ·refine Out.mk true [] [] ?_
  try (conv => whnf)
  exact ⟨by rw [vecNo (by omega)], rfl⟩
end Go.Proofs.Ytpdjehnlejjfmaa.D
/- Numbers, texts and runs as bytes: what is written and what is read. -/
namespace Go.Proofs.Ytpdjehnlejjfmaa.D
open Go.RowKit
set_option linter.unusedVariables false
set_option linter.unusedSimpArgs false

theorem u8_nat {n : Nat} (h : n < 256) : (u8 (n : Int)).toNat = n := by
 have := u8_val (n : Int)
 omega
def put (n : Nat) : List UInt8 := if n < 128 then [u8 n] else u8 ((128 + n % 128 : Nat) : Int) :: put (n / 128)
termination_by n
theorem put_lt {n : Nat} (h : n < 128) : put n = [u8 n] := by rw [put, if_pos h]
theorem put_ge {n : Nat} (h : 128 ≤ n) : put n = u8 ((128 + n % 128 : Nat) : Int) :: put (n / 128) := by rw [put, if_neg (by omega)]
theorem put_pos (n : Nat) : 0 < (put n).length := by rw [put]; split <;> simp
theorem put_le : ∀ (k n : Nat), n < 128 ^ k → 0 < k → (put n).length ≤ k := by
 intro k
 induction k with
 | zero => intro n _ h; omega
 | succ k ih =>
  intro n h _
  by_cases h1 : n < 128
  ·rw [put_lt h1]; simp
  ·rw [put_ge (by omega)]
   have hk : 0 < k := by
    rcases Nat.eq_zero_or_pos k with h0 | h0
    ·subst h0; simp at h; omega
    ·exact h0
   have : n / 128 < 128 ^ k := Nat.div_lt_of_lt_mul (by rw [Nat.mul_comm, ← Nat.pow_succ]; exact h)
   have := ih _ this hk
   simp; omega
theorem put_len {n : Nat} (h : n < 2 ^ 63) : (put n).length ≤ 9 := put_le 9 n (by omega) (by omega)
def gs : Nat → List UInt8 → Option (Nat × Nat)
 | _, [] => none
 |n, c :: s => if n = 8 ∧ 63 < c.toNat then none else if c.toNat < 128 then (if n = 0 ∨ 0 < c.toNat then some (c.toNat, 1) else none)
  else (gs (n + 1) s).map fun r => (c.toNat % 128 + 128 * r.1, r.2 + 1)
def get (l : List UInt8) (a : Nat) : Option (Nat × Nat) := (gs 0 (l.drop a)).map fun r => (r.1, a + r.2)
def alike : List UInt8 → List UInt8 → Nat
 | a :: az, b :: bz => if a = b then alike az bz + 1 else 0
 | _, _ => 0
theorem alike_le : ∀ (a b : List UInt8), alike a b ≤ a.length ∧ alike a b ≤ b.length
 | [], b => by simp [alike]
 | _ :: _, [] => by simp [alike]
 | a :: az, b :: bz => by simp only [alike]; split <;> simp; exact alike_le az bz
theorem alike_eq : ∀ (a b : List UInt8) (n : Nat), n ≤ a.length → n ≤ b.length → a.take n = b.take n → (∀ (h1 : n < a.length) (h2 : n < b.length), a[n] ≠ b[n]) → alike a b = n
 | [], b, n, h1, _, _, _ => by simp at h1; simp [alike, h1]
 | _ :: _, [], n, _, h1, _, _ => by simp at h1; simp [alike, h1]
 |a :: az, b :: bz, 0, _, _, _, h => by
  have := h (by simp) (by simp)
  simp only [List.getElem_cons_zero] at this
  rw [alike, if_neg this]
 |a :: az, b :: bz, n + 1, h1, h2, h3, h4 => by
  simp only [List.take_succ_cons, List.cons.injEq] at h3
  rw [alike, if_pos h3.1, alike_eq az bz n (by simpa using h1) (by simpa using h2) h3.2 fun g1 g2 => h4 (Nat.succ_lt_succ g1) (Nat.succ_lt_succ g2)]

def putTs (last : List UInt8) : List (List UInt8) → List UInt8
 | [] => []
 | t :: ts => put (alike last t) ++ put (t.length - alike last t) ++ t.drop (alike last t) ++ putTs t ts
def putT (ts : List (List UInt8)) : List UInt8 := put ts.length ++ putTs [] ts
def total (ts : List (List UInt8)) : Nat := (ts.map List.length).sum
theorem putTs_append (last : List UInt8) : ∀ (a b : List (List UInt8)), putTs last (a ++ b) = putTs last a ++ putTs (a.getLast?.getD last) b
 | [], b => by simp [putTs]
 | [t], b => by simp [putTs]
 |t :: u :: a, b => by
  have := putTs_append t (u :: a) b
  simp only [List.cons_append] at this ⊢
  rw [putTs, this]
  conv => rhs; rw [putTs]
  simp [List.append_assoc, List.getLast?_cons]
end Go.Proofs.Ytpdjehnlejjfmaa.D
/- Runs of numbers as bytes: what is written and what is read. -/
namespace Go.Proofs.Ytpdjehnlejjfmaa.D
open Go.RowKit
set_option linter.unusedVariables false
set_option linter.unusedSimpArgs false

def M4 : Int := 1152921504606846975
def zig (d : Int) : Nat := if d < 0 then (-2 * d - 1).toNat else (2 * d).toNat
def more (d : Int) : Int → List Int → Nat
 | _, [] => 0
 | y, z :: s => if z - y = d then more d z s + 1 else 0
theorem more_le (d : Int) : ∀ (y : Int) (s : List Int), more d y s ≤ s.length
 | _, [] => by simp [more]
 | y, z :: s => by simp only [more]; split <;> simp; exact more_le d z s
def rl : List Int → Nat
 | [] => 0
 | [_] => 1
 | x :: y :: s => more (y - x) y s + 2
theorem rl_pos {s : List Int} (h : s ≠ []) : 0 < rl s := by
 match s, h with
 | [_], _ => simp [rl]
 | _ :: _ :: _, _ => simp [rl]
theorem rl_le (s : List Int) : rl s ≤ s.length := by
 match s with
 | [] => simp [rl]
 | [_] => simp [rl]
 | x :: y :: s => simp only [rl, List.length_cons]; have := more_le (y - x) y s; omega
def seq (v d : Int) : Nat → List Int
 | 0 => []
 | n + 1 => v :: seq (v + d) d n
@[simp] theorem seq_length (v d : Int) (n : Nat) : (seq v d n).length = n := by
 induction n generalizing v with
 | zero => rfl
 | succ n ih => simp [seq, ih]
def putRs (l : List Int) : List UInt8 :=
 match h : l with
 | [] => []
 | [x] => put x.toNat ++ put 1
 | x :: y :: s => put x.toNat ++ put (rl l) ++ put (zig (y - x)) ++ putRs (l.drop (rl l))
termination_by l.length
decreasing_by subst h; have := rl_pos (s := x :: y :: s) (by simp); simp; simp only [rl] at *; omega
def putR (l : List Int) : List UInt8 := put l.length ++ putRs l
theorem putRs_nil : putRs [] = [] := by rw [putRs]
theorem putRs_one (x : Int) : putRs [x] = put x.toNat ++ put 1 := by rw [putRs]
theorem putRs_two (x y : Int) (s : List Int) : putRs (x :: y :: s) = put x.toNat ++ put (rl (x :: y :: s)) ++ put (zig (y - x)) ++ putRs ((x :: y :: s).drop (rl (x :: y :: s))) := by rw [putRs]
def inM (x : Int) : Prop := 0 ≤ x ∧ x ≤ M4
instance (x : Int) : Decidable (inM x) := by unfold inM; infer_instance
end Go.Proofs.Ytpdjehnlejjfmaa.D
/- Operations: as values, and in order. -/
namespace Go.Proofs.Ytpdjehnlejjfmaa.D
open Go.RowKit
set_option maxRecDepth 100000
set_option maxHeartbeats 4000000
set_option linter.unusedVariables false
set_option linter.unusedSimpArgs false

structure OpV where
 actor : Int
 seq : Int
 time : Int
 deps : List Int
 kind : Int
 obj : Int
 n : Int
 undo : Int
 atT : Int
 atA : Int
 key : List UInt8
 text : List UInt8
def oD (o : OpV) : List DV := [.sc (.int .i64 o.actor), .sc (.int .i64 o.seq), .sc (.int .i64 o.time), .sl (o.deps.map inD), .sc (.int .i64 o.kind), .sc (.int .i64 o.obj), .sc (.int .i64 o.n), .sc (.int .i64 o.undo), .sc (.int .i64 o.atT), .sc (.int .i64 o.atA), .sc (.string (bs o.key)), .sc (.string (bs o.text))]
abbrev opC (o : OpV) : List CV := [cI o.actor, cI o.seq, cI o.time, cN o.deps, cI o.kind, cI o.obj, cI o.n, cI o.undo, cI o.atT, cI o.atA, cS (bs o.key), cS (bs o.text)]
abbrev vO (o : OpV) : SV := .agg (opC o)
abbrev timeOk (t : Int) : Prop := 1 ≤ t ∧ t ≤ 1000000000000
abbrev actOk (a : Int) : Prop := 0 ≤ a ∧ a < 16
def stOk (t a : Int) : Prop := timeOk t ∧ actOk a
instance (t a : Int) : Decidable (stOk t a) := by unfold stOk; infer_instance
def stLt (t a u b : Int) : Prop := t < u ∨ t = u ∧ a < b
instance (t a u b : Int) : Decidable (stLt t a u b) := by unfold stLt; infer_instance
abbrev noSt (t a : Int) : Prop := t = 0 ∧ a = 0
def chOk (n : Int) : Prop := 0 ≤ n ∧ n ≤ 1114111 ∧ (n < 55296 ∨ n > 57343)
instance (n : Int) : Decidable (chOk n) := by unfold chOk; infer_instance
def kindOk (o : OpV) : Prop := (o.kind = 1 ∧ o.n = 0 ∧ noSt o.atT o.atA) ∨ (o.kind = 2 ∧ (o.key = [] ∧ o.text = []) ∧ chOk o.n) ∨ (o.kind = 3 ∧ (o.key = [] ∧ o.text = []) ∧ o.n = 0 ∧ ¬ noSt o.atT o.atA) ∨ (o.kind = 4 ∧ (o.key = [] ∧ o.text = []) ∧ noSt o.atT o.atA)
instance (o : OpV) : Decidable (kindOk o) := by unfold kindOk; infer_instance
structure OpOk (o : OpV) : Prop where
 st : stOk o.time o.actor
 seq : 1 ≤ o.seq ∧ o.seq ≤ 1000000000000
 vec : VecOk o.deps
 own : o.deps.getD o.actor.toNat 0 = o.seq - 1
 obj : 1 ≤ o.obj ∧ o.obj ≤ 100
 num : -1000000000000 ≤ o.n ∧ o.n ≤ 1000000000000
 undo : 0 ≤ o.undo ∧ o.undo < o.seq
 words : o.key.length ≤ 200 ∧ o.text.length ≤ 200
 at_ : noSt o.atT o.atA ∨ stOk o.atT o.atA ∧ stLt o.atT o.atA o.time o.actor
 kind : kindOk o
theorem opOk_iff (o : OpV) : OpOk o ↔ (stOk o.time o.actor ∧ (1 ≤ o.seq ∧ o.seq ≤ 1000000000000) ∧ VecOk o.deps ∧ o.deps.getD o.actor.toNat 0 = o.seq - 1 ∧ (1 ≤ o.obj ∧ o.obj ≤ 100) ∧ (-1000000000000 ≤ o.n ∧ o.n ≤ 1000000000000) ∧ (0 ≤ o.undo ∧ o.undo < o.seq) ∧ (o.key.length ≤ 200 ∧ o.text.length ≤ 200) ∧ (noSt o.atT o.atA ∨ stOk o.atT o.atA ∧ stLt o.atT o.atA o.time o.actor) ∧ kindOk o) :=
 ⟨fun h => ⟨h.st, h.seq, h.vec, h.own, h.obj, h.num, h.undo, h.words, h.at_, h.kind⟩, fun ⟨a, b, c, d, e, f, g, i, j, k⟩ => ⟨a, b, c, d, e, f, g, i, j, k⟩⟩
instance (o : OpV) : Decidable (OpOk o) := decidable_of_iff _ (opOk_iff o).symm
abbrev vSt (t a : Int) : SV := .agg [cI t, cI a]
theorem dec_t {p : Prop} [Decidable p] (h : p) : vB true = vB (decide p) := by rw [decide_eq_true h]
theorem dec_f {p : Prop} [Decidable p] (h : ¬ p) : vB false = vB (decide p) := by rw [decide_eq_false h]
theorem dec_b {p q : Prop} [Decidable p] [Decidable q] (h : p ↔ q) : vB (decide p) = vB (decide q) := by rw [show decide p = decide q from by simp [h]]
theorem i_isActor' (a : Int) : CallD Try.prog id_impl_isActor [vI .i64 a] [] (vB (decide (actOk a))) [] := by
 refine F_impl_isActor ?_
 try (conv => whnf)
 repeat' (first
  | (refine br_dec (fun _ => ?_) (fun _ => ?_) <;> first | (exfalso; omega) | contradiction | conv => whnf)
  | (refine br_not ?_; conv => whnf)
  | (refine br_bne (fun _ => ?_) (fun _ => ?_) <;> first | (exfalso; omega) | contradiction | conv => whnf)
  | (refine br_beq (fun _ => ?_) (fun _ => ?_) <;> first | (exfalso; omega) | contradiction | conv => whnf))
 all_goals
  refine Out.mk true [] [] ?_
  try (conv => whnf)
 all_goals first
  | exact ⟨dec_t (by omega), rfl⟩
  | exact ⟨dec_f (by omega), rfl⟩
  | exact ⟨dec_b (by omega), rfl⟩
theorem i_StampOK (t a : Int) : CallD Try.prog id_impl_StampOK [vSt t a] [] (vB (decide (stOk t a))) [] := by
 refine F_impl_StampOK ?_
 try (conv => whnf)
 repeat' (first
  | (refine br_dec (fun _ => ?_) (fun _ => ?_) <;> first | (exfalso; omega) | contradiction | conv => whnf)
  | (refine br_not ?_; conv => whnf)
  | (refine br_bne (fun _ => ?_) (fun _ => ?_) <;> first | (exfalso; omega) | contradiction | conv => whnf)
  | (refine br_beq (fun _ => ?_) (fun _ => ?_) <;> first | (exfalso; omega) | contradiction | conv => whnf))
 ·refine Hand.mk [] ?_
  try (conv => whnf)
  refine CallW.d (i_isActor' a) ?_
  try (conv => whnf)
  refine Out.mk true [] [] ?_
  try (conv => whnf)
  exact ⟨dec_b (by simp only [stOk]; omega), rfl⟩
 all_goals
  refine Out.mk true [] [] ?_
  try (conv => whnf)
 all_goals exact ⟨dec_f (by simp only [stOk]; omega), rfl⟩
theorem s_StampOK (t a : Int) : CallD Try.prog id_spec_StampOK [vSt t a] [] (vB (decide (stOk t a))) [] := by
 refine F_spec_StampOK ?_
 try (conv => whnf)
 repeat' (first
  | (refine br_dec (fun _ => ?_) (fun _ => ?_) <;> first | (exfalso; omega) | contradiction | conv => whnf)
  | (refine br_not ?_; conv => whnf)
  | (refine br_bne (fun _ => ?_) (fun _ => ?_) <;> first | (exfalso; omega) | contradiction | conv => whnf)
  | (refine br_beq (fun _ => ?_) (fun _ => ?_) <;> first | (exfalso; omega) | contradiction | conv => whnf))
 all_goals
  refine Out.mk true [] [] ?_
  try (conv => whnf)
 all_goals first
  | exact ⟨dec_t (by simp only [stOk]; omega), rfl⟩
  | exact ⟨dec_f (by simp only [stOk]; omega), rfl⟩
  | exact ⟨dec_b (by simp only [stOk]; omega), rfl⟩
theorem i_StampLess (t a u b : Int) : CallD Try.prog id_impl_StampLess [vSt t a, vSt u b] [] (vB (decide (stLt t a u b))) [] := by
 refine F_impl_StampLess ?_
 try (conv => whnf)
 repeat' (first
  | (refine SeqJ.thru ?_; conv => whnf)
  | (refine br_dec (fun _ => ?_) (fun _ => ?_) <;> first | (exfalso; omega) | contradiction | conv => whnf)
  | (refine br_not ?_; conv => whnf)
  | (refine br_bne (fun _ => ?_) (fun _ => ?_) <;> first | (exfalso; omega) | contradiction | conv => whnf)
  | (refine br_beq (fun _ => ?_) (fun _ => ?_) <;> first | (exfalso; omega) | contradiction | conv => whnf))
 all_goals
  refine Out.mk true [] [] ?_
  try (conv => whnf)
 all_goals first
  | exact ⟨dec_t (by simp only [stLt]; omega), rfl⟩
  | exact ⟨dec_f (by simp only [stLt]; omega), rfl⟩
  | exact ⟨dec_b (by simp only [stLt]; omega), rfl⟩
theorem s_StampLess (t a u b : Int) : CallD Try.prog id_spec_StampLess [vSt t a, vSt u b] [] (vB (decide (stLt t a u b))) [] := by
 refine F_spec_StampLess ?_
 try (conv => whnf)
 repeat' (first
  | (refine br_dec (fun _ => ?_) (fun _ => ?_) <;> first | (exfalso; omega) | contradiction | conv => whnf)
  | (refine br_not ?_; conv => whnf)
  | (refine br_bne (fun _ => ?_) (fun _ => ?_) <;> first | (exfalso; omega) | contradiction | conv => whnf)
  | (refine br_beq (fun _ => ?_) (fun _ => ?_) <;> first | (exfalso; omega) | contradiction | conv => whnf))
 all_goals
  refine Out.mk true [] [] ?_
  try (conv => whnf)
 all_goals first
  | exact ⟨dec_t (by simp only [stLt]; omega), rfl⟩
  | exact ⟨dec_f (by simp only [stLt]; omega), rfl⟩
  | exact ⟨dec_b (by simp only [stLt]; omega), rfl⟩
theorem s_l02None (t a : Int) : CallD Try.prog id_spec_l02None [vSt t a] [] (vB (decide (noSt t a))) [] := by
 refine F_spec_l02None ?_
 try (conv => whnf)
 repeat' (first
  | (refine br_dec (fun _ => ?_) (fun _ => ?_) <;> first | (exfalso; omega) | contradiction | conv => whnf)
  | (refine br_not ?_; conv => whnf)
  | (refine br_bne (fun _ => ?_) (fun _ => ?_) <;> first | (exfalso; omega) | contradiction | conv => whnf)
  | (refine br_beq (fun _ => ?_) (fun _ => ?_) <;> first | (exfalso; omega) | contradiction | conv => whnf))
 all_goals
  refine Out.mk true [] [] ?_
  try (conv => whnf)
 all_goals first
  | exact ⟨dec_t (by omega), rfl⟩
  | exact ⟨dec_f (by omega), rfl⟩
  | exact ⟨by rw [show (a == 0) = decide (noSt t a) from by by_cases h : a = 0 <;> simp [*]], rfl⟩
theorem i_charOK (n : Int) : CallD Try.prog id_impl_charOK [vI .i64 n] [] (vB (decide (chOk n))) [] := by
 refine F_impl_charOK ?_
 try (conv => whnf)
 repeat' (first
  | (refine br_dec (fun _ => ?_) (fun _ => ?_) <;> first | (exfalso; omega) | contradiction | conv => whnf)
  | (refine br_not ?_; conv => whnf)
  | (refine br_bne (fun _ => ?_) (fun _ => ?_) <;> first | (exfalso; omega) | contradiction | conv => whnf)
  | (refine br_beq (fun _ => ?_) (fun _ => ?_) <;> first | (exfalso; omega) | contradiction | conv => whnf))
 all_goals
  refine Out.mk true [] [] ?_
  try (conv => whnf)
 all_goals first
  | exact ⟨dec_t (by simp only [chOk]; omega), rfl⟩
  | exact ⟨dec_f (by simp only [chOk]; omega), rfl⟩
  | exact ⟨dec_b (by simp only [chOk]; omega), rfl⟩
theorem s_l04Char (n : Int) : CallD Try.prog id_spec_l04Char [vI .i64 n] [] (vB (decide (chOk n))) [] := by
 refine F_spec_l04Char ?_
 try (conv => whnf)
 repeat' (first
  | (refine br_dec (fun _ => ?_) (fun _ => ?_) <;> first | (exfalso; omega) | contradiction | conv => whnf)
  | (refine br_not ?_; conv => whnf)
  | (refine br_bne (fun _ => ?_) (fun _ => ?_) <;> first | (exfalso; omega) | contradiction | conv => whnf)
  | (refine br_beq (fun _ => ?_) (fun _ => ?_) <;> first | (exfalso; omega) | contradiction | conv => whnf))
 all_goals
  refine Out.mk true [] [] ?_
  try (conv => whnf)
 all_goals first
  | exact ⟨dec_t (by simp only [chOk]; omega), rfl⟩
  | exact ⟨dec_f (by simp only [chOk]; omega), rfl⟩
  | exact ⟨dec_b (by simp only [chOk]; omega), rfl⟩
theorem i_stamp (o : OpV) : CallD Try.prog id_impl_Op_stamp [vO o] [] (vSt o.time o.actor) [] := by
 refine F_impl_Op_stamp ?_
 try (conv => whnf)
 refine Out.mk true [] [] ?_
 try (conv => whnf)
 exact ⟨rfl, rfl⟩
theorem s_l08Stamp (o : OpV) : CallD Try.prog id_spec_l08Stamp [vO o] [] (vSt o.time o.actor) [] := by
 refine F_spec_l08Stamp ?_
 try (conv => whnf)
 refine Out.mk true [] [] ?_
 try (conv => whnf)
 exact ⟨rfl, rfl⟩
end Go.Proofs.Ytpdjehnlejjfmaa.D
