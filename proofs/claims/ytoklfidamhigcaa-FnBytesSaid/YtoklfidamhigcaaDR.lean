/- A call, an operation, a region, a piece of code, a function. -/
import Derived.Test.YtoklfidamhigcaaDQ
namespace Go.Proofs.Ytoklfidamhigcaa.D
open Go.RowKit

section
variable {P : Program} (tb : Tab P) {w0 : World} {M : Rows0} {N : Nat} {V V0 : View} {bs : Loc} {S : St} {a : Act} {w : World}

open Classical in
theorem callD_ok (hs : Sat1 w0 M N V bs S a w) (h0 : V0.le V) (h1 : ∀ x v, V x = some v → V0 x = some v ∨ w0.heap.size ≤ x.block) {o : Oper} (hd : ∀ t, o.dst = some t → t < N) {c : Call} {fo : Operand}
    (ho : o.op = .call c) (hc : c.callee = .value fo) {nm : Nat} {K : St → Prop} {Q : Exit → Act → World → Prop} (h : callD P nm S o.dst (S.ev fo) (c.args.toList.map S.ev) K) :
    o.wp P a w (fun a' w' => ∃ S', K S' ∧ Sat w0 M N V0 S' a' w') Q := by
  obtain ⟨ps, bor, f, hf, ⟨hnd, hpl, hnm⟩, h⟩ := h
  have hev : ∀ x, VR V bs (S.ev x) (a.eval x) := ev_ok hs.tmps
  have hfv : a.eval fo = .func (.func f) #[] #[] := by have := hev fo; rw [hf] at this; exact vr_sc this
  let V1 : View := fun x => match V x with
    | some v => some v
    | none => if bor = true ∧ ∃ p b n, p ∉ ps ∧ bs p = some (b, n) ∧ x.block = b then w.cell? x else none
  have hV1 : V.le V1 := fun x v hx => by simp only [V1, hx]
  have hV1' : ∀ x u, V1 x = some u → V x = some u ∨ (bor = true ∧ (∃ p b n, p ∉ ps ∧ bs p = some (b, n) ∧ x.block = b) ∧ w.cell? x = some u) := fun x u hx => by
    simp only [V1] at hx
    split at hx
    · rename_i v hv; simp at hx; subst hx; exact .inl hv
    · split at hx
      · rename_i hb; exact .inr ⟨hb.1, hb.2, hx⟩
      · simp at hx
  have hV1w : ∀ x u, V1 x = some u → w.cell? x = some u := fun x u hx => (hV1' x u hx).elim (hs.view x u) (fun h => h.2.2)
  have hcov : bor = true → ∀ p b n, p ∉ ps → bs p = some (b, n) → ∀ x u, x.block = b → w.cell? x = some u → V1 x = some u := fun hb p b n hp hbp x u hx hu => by
    cases hVx : V x with
    | some v => rw [hV1 _ _ hVx]; rw [hs.view _ _ hVx] at hu; exact hu
    | none =>
      simp only [V1, hVx]
      rw [if_pos ⟨hb, p, b, n, hp, hbp, hx⟩]; exact hu
  let bs1 : Loc := fun i => match ps[i]? with | some p => bs p | none => none
  have hbs1 : ∀ (i : Nat) p, ps[i]? = some p → bs1 i = bs p := fun i p hi => by simp only [bs1, hi]
  have hargs : Args V bs (c.args.toList.map S.ev) (c.args.toList.map a.eval) := ⟨by simp, fun i sv v h2 h3 => by
    simp only [List.getElem?_map, Option.map_eq_some_iff] at h2 h3
    obtain ⟨x, hx, rfl⟩ := h2
    obtain ⟨y, hy, rfl⟩ := h3
    rw [hx] at hy; injection hy with hy; subst hy; exact hev x⟩
  obtain ⟨args', h, hA⟩ := argSs_ok hs hbs1 hV1 hcov hargs h
  obtain ⟨Li, h, hLl, hLi⟩ := rowsD_ok hs hbs1 hV1 hcov h
  obtain ⟨mv, cl, Post, ⟨⟨fn, hfn, hname, hbody⟩, hcall⟩, hcl, hpost⟩ := h
  have hps : ∀ p ∈ ps, S.L p ≠ none := fun p hp => by
    obtain ⟨i, hi, rfl⟩ := List.mem_iff_getElem.1 hp
    exact (hLi i _ _ (List.getElem?_eq_getElem hi) (List.getElem?_eq_getElem (by omega))).1
  have hsat : SatL w (ps.map bs) V1 bs1 (Lof Li) w := by
    have hb1 : ∀ i b n, bs1 i = some (b, n) → ∃ p, ps[i]? = some p ∧ bs p = some (b, n) := fun i b n hi => by
      simp only [bs1] at hi
      split at hi
      · rename_i p hp; exact ⟨p, hp, hi⟩
      · simp at hi
    refine ⟨Keep.refl _ _, hV1w, fun x v i b n hx hi => ?_, fun i j b n n' hi hj => ?_, fun i b n hi => ?_, fun i r hi hlt hmv => ?_, by simpa using hpl, fun i hi => ?_, fun i r hi => ?_, fun t => by simp; exact .one (.dead _), rfl, rfl⟩
    · obtain ⟨p, hp, hb⟩ := hb1 _ _ _ hi
      rcases hV1' x v hx with h2 | ⟨_, ⟨q, b', n', hq, hbq, hxb⟩, _⟩
      · exact hs.apart _ _ _ _ _ h2 hb
      · rw [hxb]; rintro rfl
        have := hs.inj _ _ _ _ _ hbq hb; subst this
        exact hq (List.mem_of_getElem? hp)
    · obtain ⟨p, hp, hb⟩ := hb1 _ _ _ hi
      obtain ⟨q, hq, hb'⟩ := hb1 _ _ _ hj
      have := hs.inj _ _ _ _ _ hb hb'; subst this
      exact nodup_inj hnd hp hq
    · obtain ⟨p, hp, hb⟩ := hb1 _ _ _ hi
      exact ⟨.inr (by rw [List.getElem?_map, hp]; simp [hb]), (hs.fresh _ _ _ hb).2⟩
    · have hil := (List.getElem?_eq_some_iff.1 (show Li[i]? = some r from hi)).1
      have hp := List.getElem?_eq_getElem (l := ps) (show i < ps.length by omega)
      rw [List.getElem?_map, hp, hbs1 _ _ hp]; rfl
    · have : ps.length ≤ i := by
        have hi : Li[i]? = none := hi
        rw [List.getElem?_eq_none_iff] at hi; omega
      simp only [bs1, List.getElem?_eq_none this]
    · have hil := (List.getElem?_eq_some_iff.1 (show Li[i]? = some r from hi)).1
      have hp := List.getElem?_eq_getElem (l := ps) (show i < ps.length by omega)
      have := (hLi i _ r hp hi).2
      rw [← hbs1 _ _ hp] at this
      exact this
  have hrun : (execOp a.eval o).run P w = .ok (.enter f (c.args.map a.eval)) w := by
    obtain ⟨callee, cargs, ctypes⟩ := c
    simp only at hc; subst hc
    have hn2 : ¬ (fn.name = "runtime.NumGoroutine") := by simpa using hname
    have hb2 : ¬ (fn.body = none) := by intro h5; rw [h5] at hbody; simp at hbody
    simp [execOp, ho, resolve, hfv, Deferred.ofValue, invoke, callFunc, hfn, hn2, hb2]
  have hcalls := hcall w (ps.map bs) V1 bs1 (c.args.toList.map a.eval) (by simp [hLl]) hsat hA
  have hargsE : (c.args.toList.map a.eval).toArray = c.args.map a.eval := by apply Array.ext'; simp
  rw [hargsE] at hcalls
  unfold Oper.wp
  rw [hrun]
  refine Calls.mono hcalls ?_
  rintro e w' ⟨v, V', bs', res, Lo, rfl, gp, hlen, g1, g2, g3, g4, g5⟩
  obtain ⟨hfree, hK⟩ := hpost res Lo gp
  have hkeep : Keep (ps.map bs) w w' := g3.keep
  have fin : ∀ Vn : View, V.le Vn → (∀ x u, Vn x = some u → V x = some u ∨ w.heap.size ≤ x.block) → SatL w (ps.map bs) Vn bs' (Lof Lo) w' mv → VR Vn bs' res v → ∃ S', K S' ∧ Sat w0 M N V0 S' (a.put o.dst v) w' := fun Vn e1 e2 e3 e4 => by
    obtain ⟨V2, bs2, k1, k2, k3, k4, k5⟩ := hs.back hnd hnm hps e1 hkeep e3 (by omega) hfree e2
    exact ⟨_, hK, (k5.put hd (backS_ok (bor := false) (fun _ => k3) k4 (fun hb => by simp at hb) e4)).sat (h0.trans k1) (fun x u hx => (k2 x u hx).elim (h1 x u) .inr)⟩
  cases hb : bor with
  | false =>
    exact fin V' (hV1.trans g1) (fun x u hx => (g2 x u hx).imp (fun h5 => (hV1' x u h5).elim id (fun h6 => by rw [hb] at h6; simp at h6)) id) g3 g4
  | true =>
    obtain ⟨Vc, c1, c2, c3, c4⟩ := g5 (hcl hb)
    let Vn : View := fun x => match V x with | some u => some u | none => Vc x
    have n1 : V.le Vn := fun x u hx => by simp only [Vn, hx]
    have n2 : ∀ x u, Vn x = some u → V x = some u ∨ Vc x = some u := fun x u hx => by
      simp only [Vn] at hx
      split at hx
      · rename_i y hy; simp at hx; subst hx; exact .inl hy
      · exact .inr hx
    have n3 : Vc.le Vn := fun x u hx => by
      cases hVx : V x with
      | some y => have := World.block_lt_of_cell? _ _ (hs.view _ _ hVx); have := c2 x u hx; omega
      | none => simp only [Vn, hVx, hx]
    have n4 : ∀ x u, Vn x = some u → V' x = some u := fun x u hx => (n2 x u hx).elim (fun h => g1 _ _ (hV1 _ _ h)) (c1 x u)
    refine fin Vn n1 (fun x u hx => (n2 x u hx).imp id (c2 x u)) ?_ (c4.mono n3 fun _ _ h => h)
    refine ⟨c3.keep, fun x u hx => g3.view x u (n4 x u hx), fun x u p b n hx hp => g3.apart x u p b n (n4 x u hx) hp, c3.inj, c3.fresh, c3.par, c3.ml, c3.dom, fun p r hp => ?_, fun t => by simp; exact .one (.dead _), rfl, rfl⟩
    exact (c3.rows p r hp).imp (fun ⟨b, n, e1, e2⟩ => ⟨b, n, e1, e2.mono n3 (fun _ _ h => h) (fun _ => rfl) (fun _ => rfl)⟩) id

/-- An operation. -/
def opD (P : Program) (tb : TypeId → Option TyI) (nm : Nat) (S : St) (op : Op) (dst : Option Tmp) (K : St → Prop) : Prop :=
  match op with
  | .call c =>
    (match c.callee with
    | .value fo => callD P nm S dst (S.ev fo) (c.args.toList.map S.ev) K
    | _ => memD tb nm S (.call c) dst K)
  | op => memD tb nm S op dst K

theorem opD_ok (hs : Sat w0 M N V0 S a w) {o : Oper} (hd : ∀ t, o.dst = some t → t < N) {nm : Nat} {K : St → Prop} {Q : Exit → Act → World → Prop} (h : opD P tb.tb nm S o.op o.dst K) :
    o.wp P a w (fun a' w' => ∃ S', K S' ∧ Sat w0 M N V0 S' a' w') Q := by
  obtain ⟨V, bs, h0, h1, hs⟩ := hs
  unfold opD at h
  split at h
  · rename_i c ho
    split at h
    · rename_i fo hc
      exact callD_ok hs h0 h1 hd ho hc h
    · exact memD_ok tb hs h0 h1 hd (by rw [ho]; exact h)
  · exact memD_ok tb hs h0 h1 hd h

/-- Two ways, by a truth value: opened where it is known. -/
def guardD (b : Bool) (X Y : Prop) : Prop := (b = true → X) ∧ (b = false → Y)
theorem guardD_true {X Y : Prop} : guardD true X Y = X := by simp [guardD]
theorem guardD_false {X Y : Prop} : guardD false X Y = Y := by simp [guardD]
theorem guardD_split {b : Bool} {X Y : Prop} (h1 : b = true → X) (h2 : b = false → Y) : guardD b X Y := ⟨h1, h2⟩

theorem skipped {V : View} {bs : Loc} : VR V bs (.tup []) undef := VR.tup (ps := []) (vs := []) rfl fun i b cs u h => by simp at h
theorem vr_skip {V : View} {bs : Loc} {v : Value} (h : VR V bs (.tup []) v) : v = undef := by
  cases h with
  | tup hl _ => rw [List.eq_nil_of_length_eq_zero hl.symm]; rfl
theorem yielded_skip {ops : Array Oper} {tmps : Array Value} {j t : Nat} (ht : (ops[j]?).bind (·.dst) = some t) (h : tmps.getD t undef = undef) : yielded ops tmps j = none := by
  unfold yielded
  rw [ht]
  rw [Array.getD_eq_getD_getElem?] at h
  cases h5 : tmps[t]? with
  | none => simp [h5]
  | some u => rw [h5] at h; simp at h; subst h; simp [h5, undef]
/-- The operations of a region, in the order of the text. -/
def opsD (P : Program) (tb : TypeId → Option TyI) (base : Nat) (ops : List Oper) : Nat → List Oper → St → (St → Prop) → Prop
  | _, [], S, K => K S
  | i, o :: rest, S, K =>
    match o.guard with
    | none => opD P tb (base + 16 * i) S o.op o.dst fun S' => opsD P tb base ops (i + 1) rest S' K
    | some (j, want) =>
      match (ops[j]?).bind (·.dst) with
      | some t => (match S.T t with
        | .one (.dv (.sc (.bool b))) => guardD (b == want) (opD P tb (base + 16 * i) S o.op o.dst fun S' => opsD P tb base ops (i + 1) rest S' K) (opsD P tb base ops (i + 1) rest (S.put o.dst (.tup [])) K)
        | .tup [] => opsD P tb base ops (i + 1) rest (S.put o.dst (.tup [])) K
        | _ => False)
      | none => False

theorem opsD_ok {ops : Array Oper} (hd : ∀ o ∈ ops, ∀ t, o.dst = some t → t < N) {base : Nat} {Q : Exit → Act → World → Prop} {K : St → Prop} (hQ : ∀ S a w, K S → Sat w0 M N V0 S a w → Q .normal a w) :
    ∀ (rest : List Oper) (i : Nat) (S : St) (a : Act) (w : World), ops.toList.drop i = rest → Sat w0 M N V0 S a w → opsD P tb.tb base ops.toList i rest S K → wpOps P ops Q (List.range' i rest.length) a w
  | [], i, S, a, w, _, hs, h => hQ S a w h hs
  | o :: rest, i, S, a, w, hr, hs, h => by
    have hlt : i < ops.toList.length := by
      rcases Nat.lt_or_ge i ops.toList.length with h | h
      · exact h
      · rw [List.drop_eq_nil_of_le h] at hr; simp at hr
    have ho : ops[i]? = some o := by
      have : (ops.toList.drop i)[0]? = some o := by rw [hr]; rfl
      rw [List.getElem?_drop] at this; simpa using this
    have hrest : ops.toList.drop (i + 1) = rest := by
      have : (ops.toList.drop i).drop 1 = rest := by rw [hr]; rfl
      rw [List.drop_drop] at this; exact this
    have hdo : ∀ t, o.dst = some t → t < N := hd o (by
      have := List.mem_of_getElem? (show ops.toList[i]? = some o by simpa using ho); simpa using this)
    have run : ∀ (S : St), opD P tb.tb (base + 16 * i) S o.op o.dst (fun S' => opsD P tb.tb base ops.toList (i + 1) rest S' K) → Sat w0 M N V0 S a w → o.wp P a w (wpOps P ops Q (List.range' (i + 1) rest.length)) Q := fun S h hs =>
      Oper.wp_mono (fun a' w' ⟨S', h1, h2⟩ => opsD_ok hd hQ rest (i + 1) S' a' w' hrest h2 h1) (opD_ok tb hs hdo h)
    simp only [List.length_cons, List.range'_succ, wpOps, ho]
    simp only [opsD] at h
    split at h
    · rename_i hg
      have : Region.wanted o (yielded ops a.tmps) = true := by simp [Region.wanted, hg]
      rw [if_pos this]
      exact .inl (run S h hs)
    · rename_i j want hg
      split at h
      · rename_i t ht
        split at h
        · rename_i b hb
          have hsv : a.tmps.getD t undef = .bool b := by
            obtain ⟨V, bs, _, _, hs1⟩ := hs
            have := hs1.tmps t; rw [hb] at this; exact vr_sc this
          have hy : yielded ops a.tmps j = some b := by
            unfold yielded
            have ht' : (ops[j]?).bind (·.dst) = some t := by simpa using ht
            rw [ht']
            have : a.tmps[t]? = some (.bool b) := by
              rw [Array.getD_eq_getD_getElem?] at hsv
              cases h5 : a.tmps[t]? with
              | none => rw [h5] at hsv; simp [undef] at hsv
              | some u => rw [h5] at hsv; simp at hsv; rw [hsv]
            simp [this]
          have hw : Region.wanted o (yielded ops a.tmps) = (some b == some want) := by simp [Region.wanted, hg, hy]
          by_cases hbw : b = want
          · subst hbw
            rw [if_pos (by rw [hw]; simp)]
            exact .inl (run S (h.1 (by simp)) hs)
          · rw [if_neg (by rw [hw]; simp [hbw])]
            refine opsD_ok hd hQ rest (i + 1) _ _ _ hrest ?_ (h.2 (by simp [hbw]))
            obtain ⟨V, bs, h0, h1, hs1⟩ := hs
            exact ⟨V, bs, h0, h1, hs1.put hdo skipped⟩
        · rename_i hb
          have hsv : a.tmps.getD t undef = undef := by
            obtain ⟨V, bs, _, _, hs1⟩ := hs
            have := hs1.tmps t; rw [hb] at this; exact vr_skip this
          have hy : yielded ops a.tmps j = none := by
            have ht' : (ops[j]?).bind (·.dst) = some t := by simpa using ht
            exact yielded_skip ht' hsv
          have hw : Region.wanted o (yielded ops a.tmps) = false := by simp [Region.wanted, hg, hy]
          rw [if_neg (by rw [hw]; simp)]
          refine opsD_ok hd hQ rest (i + 1) _ _ _ hrest ?_ h
          obtain ⟨V, bs, h0, h1, hs1⟩ := hs
          exact ⟨V, bs, h0, h1, hs1.put hdo skipped⟩
        · exact h.elim
      · exact h.elim
end
end Go.Proofs.Ytoklfidamhigcaa.D
