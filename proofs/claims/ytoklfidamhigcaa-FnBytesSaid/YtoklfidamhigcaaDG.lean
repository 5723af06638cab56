/- 'valD' answers as the model does. -/
import Derived.Test.YtoklfidamhigcaaDF
namespace Go.Proofs.Ytoklfidamhigcaa.D
open Go.RowKit

section
variable {P : Program} (tb : Tab P) {w0 : World} {M : Rows0} {N : Nat} {V : View} {bs : Loc} {S : St} {a : Act} {w : World}

/-- What an operation must do. -/
def Does (P : Program) (V : View) (bs : Loc) (a : Act) (w : World) (o : Oper) (K : SV → Prop) : Prop :=
  ∃ sv v, K sv ∧ VR V bs sv v ∧ (execOp a.eval o).run P w = .ok (.value v) w

theorem run_mapM {α β : Type} (xs : Array α) (g : α → Sem β) (f : α → β) (h : ∀ x ∈ xs, (g x).run P w = .ok (f x) w) : (xs.mapM g).run P w = .ok (xs.map f) w := by
  rw [Array.mapM_eq_mapM_toList]
  have : ∀ l : List α, (∀ x ∈ l, (g x).run P w = .ok (f x) w) → (l.mapM g).run P w = .ok (l.map f) w := by
    intro l
    induction l with
    | nil => intro _; simp
    | cons x l ih => intro hl; simp [hl x (by simp), ih fun y hy => hl y (by simp [hy])]
  simp only [Sem.run_map, this xs.toList (fun x hx => h x (by simpa using hx)), Result.andThen_ok]
  congr 1
  apply Array.ext'
  simp

theorem boundD_ok (hs : Sat1 w0 M N V bs S a w) {x : Option Operand} {d y y' : Nat} {K : Nat → Prop} (hy : y ≤ y') (code : BoundsCode) (h : boundD S x d y K) :
    ∃ n, K n ∧ (x = none → n = d) ∧ (∀ o, x = some o → n ≤ y ∧ (Instr.sliceBound (a.eval o) y' code).run P w = .ok n w) := by
  unfold boundD at h
  cases x with
  | none => exact ⟨d, h, fun _ => rfl, fun o ho => by simp at ho⟩
  | some x =>
    obtain ⟨k, n, he, ⟨h0, h1⟩, hK⟩ := mapInt_ok hs h
    refine ⟨n.toNat, hK, fun h => by simp at h, fun o ho => ?_⟩
    simp at ho; subst ho
    refine ⟨by omega, ?_⟩
    have : 0 ≤ n ∧ n ≤ (y' : Int) := ⟨h0, by omega⟩
    simp [Instr.sliceBound, he, asIntOf, this]

theorem callValD_ok (hs : Sat1 w0 M N V bs S a w) {c : Call} {dst : Option Tmp} {type : TypeId} {pos : String} {after : Array Edge} {guard : Option (Nat × Bool)} {K : SV → Prop}
    (h : callValD tb.tb S c.callee c.args.toList c.argTypes.toList K) : Does P V bs a w ⟨dst, .call c, type, pos, after, guard⟩ K := by
  have hev : ∀ x, VR V bs (S.ev x) (a.eval x) := ev_ok hs.tmps
  obtain ⟨callee, args, argTypes⟩ := c
  simp only at h
  unfold callValD at h
  split at h
  · split at h
    · rename_i x t hx ht
      have hx : args = #[x] := by apply Array.ext'; simpa using hx
      have ht : argTypes = #[t] := by apply Array.ext'; simpa using ht
      subst hx; subst ht
      unfold lenD at h
      split at h
      · rename_i s h1 he
        have e1 := hev x; rw [he] at e1; have e1 := vr_sc e1
        have hu := fun w => run_underlying ((tb.ok _ _ h1).string rfl) w
        exact ⟨_, _, h, .one (.dv (.sc _)), by simp [execOp, resolve, invoke, builtin, Builtin.len_, e1, hu, goInt]⟩
      · rename_i e _ _ _ es h1 he
        have e1 := hev x; rw [he] at e1; have e1 := vr_one e1
        have hu := fun w => run_underlying ((tb.ok _ _ h1).slice rfl) w
        generalize hx : a.eval x = xv at e1
        refine ⟨_, _, h, .one (.dv (.sc _)), ?_⟩
        cases e1 with
        | dv hrd => cases hrd <;> simp [execOp, resolve, invoke, builtin, Builtin.len_, hx, hu, goInt]
      · rename_i e _ _ _ p k off n h1 he
        have e1 := hev x; rw [he] at e1; have e1 := vr_one e1
        have hu := fun w => run_underlying ((tb.ok _ _ h1).slice rfl) w
        generalize hx : a.eval x = xv at e1
        refine ⟨_, _, h, .one (.dv (.sc _)), ?_⟩
        cases e1 <;> simp [execOp, resolve, invoke, builtin, Builtin.len_, hx, hu, goInt]
      · rename_i e _ _ _ h1 he
        have e1 := hev x; rw [he] at e1; have e1 := vr_one e1
        have hu := fun w => run_underlying ((tb.ok _ _ h1).slice rfl) w
        generalize hx : a.eval x = xv at e1
        refine ⟨_, _, h, .one (.dv (.sc _)), ?_⟩
        cases e1; simp [execOp, resolve, invoke, builtin, Builtin.len_, hx, hu, goInt]
      · rename_i n e _ _ _ _ h1
        have hu := fun w => run_underlying ((tb.ok _ _ h1).array rfl) w
        exact ⟨_, _, h, .one (.dv (.sc _)), by simp [execOp, resolve, invoke, builtin, Builtin.len_, hu, goInt]⟩
      · exact h.elim
    · exact h.elim
  · split at h
    · rename_i x y hx
      have hx : args = #[x, y] := by apply Array.ext'; simpa using hx
      subst hx
      obtain ⟨k, m, h1, h⟩ := mapInt_ok hs h
      obtain ⟨k', n, h2, h⟩ := mapInt_ok hs h
      exact ⟨_, _, h, .one (.dv (.sc _)), by simp [execOp, resolve, invoke, builtin, Builtin.max_, Builtin.max2, h1, h2]⟩
    · exact h.elim
  · split at h
    · rename_i x y hx
      have hx : args = #[x, y] := by apply Array.ext'; simpa using hx
      subst hx
      obtain ⟨k, m, h1, h⟩ := mapInt_ok hs h
      obtain ⟨k', n, h2, h⟩ := mapInt_ok hs h
      exact ⟨_, _, h, .one (.dv (.sc _)), by simp [execOp, resolve, invoke, builtin, Builtin.min_, Builtin.min2, h1, h2]⟩
    · exact h.elim
  · exact h.elim

theorem valD_ok (hs : Sat1 w0 M N V bs S a w) {o : Oper} {K : SV → Prop} (h : valD tb.tb S o.op K) : Does P V bs a w o K := by
  have hev : ∀ x, VR V bs (S.ev x) (a.eval x) := ev_ok hs.tmps
  obtain ⟨dst, op, type, pos, after, guard⟩ := o
  simp only at h
  unfold valD at h
  split at h
  · -- move
    exact ⟨_, _, h, hev _, by simp [execOp]⟩
  · exact ⟨_, _, h, hev _, by simp [execOp]⟩
  · -- pick
    rename_i c x y
    split at h
    · rename_i q he
      have h1 := hev c; rw [he] at h1; have h1 := vr_sc h1
      refine ⟨_, _, h, ?_, by simp [execOp, h1, asBool]; rfl⟩
      rw [pickS_eq]
      cases q
      · simpa using hev y
      · simpa using hev x
    · exact h.elim
  · -- binOp
    rename_i op t x y yt
    split at h
    · rename_i u v h1 h2
      have e1 := hev x; rw [h1] at e1; have e1 := vr_sc e1
      have e2 := hev y; rw [h2] at e2; have e2 := vr_sc e2
      obtain ⟨r, hK, h1c, hr⟩ := binD_run tb h w x y
      refine ⟨_, r, hK, .one (.dv (.sc r h1c)), ?_⟩
      simp only [execOp, e1, e2, Sem.run_bind] at hr ⊢
      simp only [hr, Result.andThen_ok, Sem.run_pure]
    · rename_i cs ds h1 h2
      have e1 := hev x; rw [h1] at e1
      have e2 := hev y; rw [h2] at e2
      generalize hx : a.eval x = xv at e1
      generalize hy : a.eval y = yv at e2
      have hxv : ∃ us : Array Value, xv = .agg us := by cases e1; exact ⟨_, rfl⟩
      have hyv : ∃ us : Array Value, yv = .agg us := by cases e2; exact ⟨_, rfl⟩
      obtain ⟨us, rfl⟩ := hxv
      obtain ⟨vs, rfl⟩ := hyv
      split at h
      · obtain ⟨r, hK, hr⟩ := eqK_ok tb w 20 10000 t _ _ _ _ _ (by omega) e1 e2 h
        exact ⟨_, .bool r, hK, .one (.dv (.sc _)), by simp only [execOp, hx, hy, Sem.run_bind, run_eqGuard_agg w _ t x y _ _ (eqK_guard tb h), Result.andThen_ok, run_eql_struct, hr, Sem.run_pure]⟩
      · obtain ⟨r, hK, hr⟩ := eqK_ok tb w 20 10000 t _ _ _ _ _ (by omega) e1 e2 h
        exact ⟨_, .bool !r, hK, .one (.dv (.sc _)), by simp only [execOp, hx, hy, Sem.run_bind, run_eqGuard_agg w _ t x y _ _ (eqK_guard tb h), Result.andThen_ok, run_neq_struct, hr, Sem.run_pure]⟩
      · exact h.elim
    · exact h.elim
  · -- unOp
    rename_i op t x
    split at h
    · rename_i k n he
      have e1 := hev x; rw [he] at e1; have e1 := vr_sc e1
      exact ⟨_, _, h, .one (.dv (.sc _)), by simp [execOp, e1, Op.unary, Op.intArith]⟩
    · rename_i k n he
      have e1 := hev x; rw [he] at e1; have e1 := vr_sc e1
      exact ⟨_, _, h, .one (.dv (.sc _)), by simp [execOp, e1, Op.unary, Op.intBits, bits]⟩
    · rename_i b he
      have e1 := hev x; rw [he] at e1; have e1 := vr_sc e1
      exact ⟨_, _, h, .one (.dv (.sc _)), by simp [execOp, e1, Op.unary]⟩
    · exact h.elim
  · -- convert
    rename_i src dst x
    split at h
    · rename_i i k _ _ _ k' n h1 h2 he
      have e1 := hev x; rw [he] at e1; have e1 := vr_sc e1
      obtain ⟨d, _, hd⟩ := (tb.ok _ _ h1).run_underlying
      have hu := run_underlying ((tb.ok _ _ h2).int rfl)
      exact ⟨_, _, h, .one (.dv (.sc _)), by simp [execOp, e1, convert, hd, hu, Conv.intToInt]⟩
    · rename_i _ _ _ _ _ _ s h1 h2 he
      have e1 := hev x; rw [he] at e1; have e1 := vr_sc e1
      have hu1 := run_underlying ((tb.ok _ _ h1).string rfl)
      have hu2 := run_underlying ((tb.ok _ _ h2).string rfl)
      exact ⟨_, _, h, .one (.dv (.sc _)), by simp [execOp, e1, convert, hu1, hu2]⟩
    · exact h.elim
  · -- fieldAddr
    rename_i s x f
    split at h
    · rename_i fs _ _ _ c h1 he
      split at h
      · rename_i off ty hf
        split at h
        · rename_i c' hc
          have e1 := hev x; rw [he] at e1; have e1 := vr_one e1
          obtain ⟨b, oo, hv, hcr⟩ := ptrAdd_ok e1 hc
          obtain ⟨fields, hu, hfd⟩ := (tb.ok _ _ h1).struct rfl
          obtain ⟨fd, hfd, ho, ht, i, hi, hi0⟩ := hfd _ _ _ hf
          refine ⟨_, _, h, .one hcr, ?_⟩
          have hu' := fun w => run_underlying hu w
          subst ho; subst ht
          simp [execOp, Instr.fieldAt, hu', hfd, hv, Instr.sureAddr, fieldPlace, sizeOf, typeInfo, hi, hi0]
        · exact h.elim
      · exact h.elim
    · exact h.elim
  · -- field
    rename_i s x f
    split at h
    · rename_i fs _ _ _ cs h1 he
      split at h
      · rename_i off ty hf
        split at h
        · rename_i i hi
          have e1 := hev x; rw [he] at e1
          obtain ⟨fields, hu, hfd⟩ := (tb.ok _ _ h1).struct rfl
          obtain ⟨fd, hfd, ho, ht, _⟩ := hfd _ _ _ hf
          have hu' := fun w => run_underlying hu w
          generalize hx : a.eval x = xv at e1
          cases e1 with
          | agg hcs =>
            obtain ⟨sv, v, hK, hv, hr⟩ := selD_part (tb.ok _ _ hi) hcs h w
            refine ⟨_, _, hK, hv, ?_⟩
            subst ho; subst ht
            simp [execOp, Instr.field, hu', hfd, hx, asAgg, hr]
        · exact h.elim
      · exact h.elim
    · exact h.elim
  · -- indexAddr
    rename_i t x ix
    obtain ⟨k, n, hn, h⟩ := mapInt_ok hs h
    split at h
    · rename_i e _ _ _ es h1 he
      split at h
      · rename_i i hi
        obtain ⟨⟨⟨h0, hlt⟩, hsz⟩, hK⟩ := h
        have e1 := hev x; rw [he] at e1; have e1 := vr_one e1
        have hu := fun w => run_underlying ((tb.ok _ _ h1).slice rfl) w
        have hz := fun w => (tb.ok _ _ hi).run_sizeOf w
        generalize hx : a.eval x = xv at e1
        obtain ⟨ad, cap, rfl, hcap, hinv⟩ := (show Rd V xv (.sl es) by cases e1; assumption).inv
        have hi' : n.toNat < es.length := by omega
        obtain ⟨b, oo, kk, f, rfl, hk, hV, hr⟩ := hinv (by rintro rfl; simp at hi')
        obtain rfl : kk = i.size := by rw [← hsz, ← hk _ hi']; simp [List.getD, hi']
        refine ⟨_, .pointer (some ⟨b, oo + n.toNat * i.size, none⟩), hK, .one ?_, ?_⟩
        · have : es.getD n.toNat [] = es[n.toNat] := by simp [List.getD, hi']
          rw [this]
          have hl := hk _ hi'
          exact .dp (g := f n.toNat) (fun j hj => hV _ j hi' (by omega)) (fun j hj => hr _ j hi' hj)
        · simp [execOp, Instr.indexAt, hn, hx, asIntOf, hu, h0, hlt, hz, add_eq]
      · exact h.elim
    · rename_i e _ _ _ p k' off len h1 he
      split at h
      · rename_i i hi
        obtain ⟨hk, ⟨h0, hlt⟩, hK⟩ := h
        have e1 := hev x; rw [he] at e1; have e1 := vr_one e1
        have hu := fun w => run_underlying ((tb.ok _ _ h1).slice rfl) w
        have hz := fun w => (tb.ok _ _ hi).run_sizeOf w
        generalize hx : a.eval x = xv at e1
        cases e1 with
        | os hb hl hc =>
          rename_i b n' cap
          refine ⟨_, .pointer (some ⟨b, (off + n.toNat) * k' + 0, none⟩), hK, .one (.ep hb), ?_⟩
          simp [execOp, Instr.indexAt, hn, hx, asIntOf, hu, h0, hlt, hz, add_eq, hk, Nat.add_mul]
        | oszero => simp at hlt; omega
      · exact h.elim
    · rename_i m e _ _ _ c h1 he
      split at h
      · rename_i i hi
        obtain ⟨⟨h0, hlt⟩, h⟩ := h
        split at h
        · rename_i c' hc
          have e1 := hev x; rw [he] at e1; have e1 := vr_one e1
          obtain ⟨b, oo, hv, hcr⟩ := ptrAdd_ok e1 hc
          have hu := fun w => run_underlying ((tb.ok _ _ h1).array rfl) w
          have hz := fun w => (tb.ok _ _ hi).run_sizeOf w
          refine ⟨_, _, h, .one hcr, ?_⟩
          simp [execOp, Instr.indexAt, hn, hv, asIntOf, hu, h0, hlt, hz, Instr.sureAddr]
        · exact h.elim
      · exact h.elim
    · exact h.elim
  · -- index
    rename_i t x ix
    obtain ⟨k, n, hn, h⟩ := mapInt_ok hs h
    split at h
    · rename_i m e _ _ _ cs h1 he
      split at h
      · rename_i i hi
        obtain ⟨⟨h0, hlt⟩, h⟩ := h
        have e1 := hev x; rw [he] at e1
        have hu := fun w => run_underlying ((tb.ok _ _ h1).array rfl) w
        have hz := fun w => (tb.ok _ _ hi).run_sizeOf w
        generalize hx : a.eval x = xv at e1
        cases e1 with
        | agg hcs =>
          obtain ⟨sv, v, hK, hv, hr⟩ := selD_part (tb.ok _ _ hi) hcs h w
          refine ⟨_, _, hK, hv, ?_⟩
          simp [execOp, Instr.index, hn, hx, asIntOf, hu, h0, hlt, hz, hr]
      · exact h.elim
    · rename_i _ _ _ s h1 he
      obtain ⟨h0, h⟩ := h
      split at h
      · rename_i b hb
        have e1 := hev x; rw [he] at e1; have e1 := vr_sc e1
        have hu := fun w => run_underlying ((tb.ok _ _ h1).string rfl) w
        refine ⟨_, _, h, .one (.dv (.sc _)), ?_⟩
        simp [execOp, Instr.index, hn, e1, asIntOf, hu, h0, hb]
      · exact h.elim
    · exact h.elim
  · -- slice
    rename_i t x lo hi mx
    split at h
    · rename_i _ _ _ s h1 he
      obtain ⟨hm, h⟩ := h
      subst hm
      have e1 := hev x; rw [he] at e1; have e1 := vr_sc e1
      have hu := fun w => run_underlying ((tb.ok _ _ h1).string rfl) w
      obtain ⟨hh, h, hn1, hs1⟩ := boundD_ok (P := P) hs (Nat.le_refl _) .sliceAlen h
      obtain ⟨l, h, hn2, hs2⟩ := boundD_ok (P := P) hs (Nat.le_refl _) .sliceB h
      refine ⟨_, .string (s.extract l hh), h, .one (.dv (.sc _)), ?_⟩
      cases hi with
      | none =>
        have := hn1 rfl; subst this
        cases lo with
        | none => have := hn2 rfl; subst this; simp [execOp, Instr.sliceAt, Instr.slice, hu, e1, Instr.sliceBounds]
        | some lo => obtain ⟨_, h3⟩ := hs2 lo rfl; simp [execOp, Instr.sliceAt, Instr.slice, hu, e1, Instr.sliceBounds, h3]
      | some hi =>
        obtain ⟨_, h4⟩ := hs1 hi rfl
        cases lo with
        | none => have := hn2 rfl; subst this; simp [execOp, Instr.sliceAt, Instr.slice, hu, e1, Instr.sliceBounds, h4]
        | some lo => obtain ⟨_, h3⟩ := hs2 lo rfl; simp [execOp, Instr.sliceAt, Instr.slice, hu, e1, Instr.sliceBounds, h3, h4]
    · rename_i e _ _ _ es h1 he
      split at h
      · rename_i i hii
        obtain ⟨hk, hm, h⟩ := h
        subst hm
        have e1 := hev x; rw [he] at e1; have e1 := vr_one e1
        have hu := fun w => run_underlying ((tb.ok _ _ h1).slice rfl) w
        have hz := fun w => (tb.ok _ _ hii).run_sizeOf w
        generalize hx : a.eval x = xv at e1
        obtain ⟨ad, cap, rfl, hcap, hinv⟩ := (show Rd V xv (.sl es) by cases e1; assumption).inv_k hk
        obtain ⟨hh, h, hn1, hs1⟩ := boundD_ok (P := P) hs hcap .sliceAcap h
        obtain ⟨l, h, hn2, hs2⟩ := boundD_ok (P := P) hs (Nat.le_refl _) .sliceB h
        have hhl : hh ≤ es.length := by cases hi with | none => rw [hn1 rfl]; exact Nat.le_refl _ | some hi => exact (hs1 hi rfl).1
        have hlh : l ≤ hh := by cases lo with | none => rw [hn2 rfl]; exact Nat.zero_le _ | some lo => exact (hs2 lo rfl).1
        refine ⟨_, .slice (if cap = l then ad else ad.map (·.add (l * i.size))) (hh - l) (cap - l), h, .one (.dv ?_), ?_⟩
        · by_cases hz0 : hh - l = 0
          · have : (es.take hh).drop l = [] := by apply List.drop_eq_nil_of_le; simp; omega
            rw [this, hz0]; exact .nil _ _
          · have hne : cap ≠ l := by omega
            rw [if_neg hne]
            obtain ⟨b, oo, f, rfl, hV, hr⟩ := hinv (by rintro rfl; simp at hhl; omega)
            simp only [Option.map_some, add_eq]
            have hlen : ((es.take hh).drop l).length = hh - l := by simp; omega
            rw [← hlen]
            have hget : ∀ i (hi : i < ((es.take hh).drop l).length), ((es.take hh).drop l)[i] = es[l + i]'(by rw [hlen] at hi; omega) := by
              intro i hi; simp
            refine .sl b (oo + l * i.size) i.size (cap - l) _ (fun i j => f (l + i) j) (by omega) (fun j hj => by rw [hget j hj]; exact hk _ (List.getElem_mem _)) (fun i j hi hj => ?_) (fun i j hi hj => ?_)
            · rw [hlen] at hi
              have := hV (l + i) j (by omega) hj
              rwa [Nat.add_mul, ← Nat.add_assoc] at this
            · have h5 := hget i hi
              have h6 : ((es.take hh).drop l)[i][j] = (es[l + i]'(by rw [hlen] at hi; omega))[j]'(by rw [← h5]; exact hj) := by simp
              rw [h6]; exact hr _ _ _ _
        · cases hi with
          | none =>
            have := hn1 rfl; subst this
            cases lo with
            | none => have := hn2 rfl; subst this; simp [execOp, Instr.sliceAt, Instr.slice, hu, hx, hz, Instr.sliceBounds]
            | some lo => obtain ⟨_, h3⟩ := hs2 lo rfl; simp [execOp, Instr.sliceAt, Instr.slice, hu, hx, hz, Instr.sliceBounds, h3]
          | some hi =>
            obtain ⟨_, h4⟩ := hs1 hi rfl
            cases lo with
            | none => have := hn2 rfl; subst this; simp [execOp, Instr.sliceAt, Instr.slice, hu, hx, hz, Instr.sliceBounds, h4]
            | some lo => obtain ⟨_, h3⟩ := hs2 lo rfl; simp [execOp, Instr.sliceAt, Instr.slice, hu, hx, hz, Instr.sliceBounds, h3, h4]
      · exact h.elim
    · rename_i e _ _ _ p k off len h1 he
      split at h
      · rename_i i hii
        obtain ⟨hk, hm, h⟩ := h
        subst hm
        have e1 := hev x; rw [he] at e1; have e1 := vr_one e1
        have hu := fun w => run_underlying ((tb.ok _ _ h1).slice rfl) w
        have hz := fun w => (tb.ok _ _ hii).run_sizeOf w
        generalize hx : a.eval x = xv at e1
        obtain ⟨ad, cap, rfl, hcap⟩ : ∃ ad cap, xv = .slice ad len cap ∧ len ≤ cap := by
          cases e1 with
          | os hb hl hc => exact ⟨_, _, rfl, hl⟩
          | oszero => exact ⟨_, _, rfl, Nat.le_refl _⟩
        obtain ⟨hh, h, hn1, hs1⟩ := boundD_ok (P := P) hs hcap .sliceAcap h
        obtain ⟨l, h, hn2, hs2⟩ := boundD_ok (P := P) hs (Nat.le_refl _) .sliceB h
        have hhl : hh ≤ len := by cases hi with | none => rw [hn1 rfl]; exact Nat.le_refl _ | some hi => exact (hs1 hi rfl).1
        have hlh : l ≤ hh := by cases lo with | none => rw [hn2 rfl]; exact Nat.zero_le _ | some lo => exact (hs2 lo rfl).1
        refine ⟨_, .slice (if cap = l then ad else ad.map (·.add (l * i.size))) (hh - l) (cap - l), h, .one ?_, ?_⟩
        · by_cases hz0 : cap = l
          · have e0 : hh - l = 0 := by omega
            have e2 : cap - l = 0 := by omega
            rw [e0, e2]; exact .oszero
          · rw [if_neg hz0]
            cases e1 with
            | os hb hl hc =>
              simp only [Option.map_some, add_eq, hk, ← Nat.add_mul]
              exact .os hb (by omega) (by have : off + l + (cap - l) = off + cap := by omega
                                          rw [this]; exact hc)
            | oszero => omega
        · cases hi with
          | none =>
            have := hn1 rfl; subst this
            cases lo with
            | none => have := hn2 rfl; subst this; simp [execOp, Instr.sliceAt, Instr.slice, hu, hx, hz, Instr.sliceBounds]
            | some lo => obtain ⟨_, h3⟩ := hs2 lo rfl; simp [execOp, Instr.sliceAt, Instr.slice, hu, hx, hz, Instr.sliceBounds, h3]
          | some hi =>
            obtain ⟨_, h4⟩ := hs1 hi rfl
            cases lo with
            | none => have := hn2 rfl; subst this; simp [execOp, Instr.sliceAt, Instr.slice, hu, hx, hz, Instr.sliceBounds, h4]
            | some lo => obtain ⟨_, h3⟩ := hs2 lo rfl; simp [execOp, Instr.sliceAt, Instr.slice, hu, hx, hz, Instr.sliceBounds, h3, h4]
      · exact h.elim
    · rename_i m e _ _ _ _ p off h1 he
      split at h
      · rename_i i hii
        obtain ⟨⟨rfl, rfl, rfl⟩, h⟩ := h
        have e1 := hev x; rw [he] at e1; have e1 := vr_one e1
        have hu := fun w => run_underlying ((tb.ok _ _ h1).array rfl) w
        have hz := fun w => (tb.ok _ _ hii).run_sizeOf w
        generalize hx : a.eval x = xv at e1
        cases e1 with
        | @ptr _ _ b n hb =>
          refine ⟨_, .slice (some ⟨b, off, none⟩) m m, h, .one (.sb hb), ?_⟩
          simp [execOp, Instr.sliceAt, hu, hx, hz, Instr.sliceBounds, Instr.sureAddr, add_eq]
      · exact h.elim
    · exact h.elim
  · -- extract
    rename_i x ix
    split at h
    · rename_i vs he
      have e1 := hev x; rw [he] at e1
      generalize hx : a.eval x = xv at e1
      cases e1 with
      | @tup _ us hl hh =>
        have get : ∀ b cs, vs[ix]? = some (b, cs) → ∃ u, us[ix]? = some u := by
          intro b cs hvs
          obtain ⟨hlt, _⟩ := List.getElem?_eq_some_iff.1 hvs
          exact ⟨us[ix]'(by omega), List.getElem?_eq_getElem _⟩
        split at h
        · rename_i cs hvs
          obtain ⟨u, hu⟩ := get _ _ hvs
          rcases hh ix _ _ u hvs hu with ⟨_, us', rfl, hcr⟩ | ⟨hb, _⟩
          · exact ⟨_, _, h, .agg hcr, by simp [execOp, hx, Instr.extract, hu]⟩
          · simp at hb
        · rename_i c hvs
          obtain ⟨u, hu⟩ := get _ _ hvs
          rcases hh ix _ _ u hvs hu with ⟨hb, _⟩ | ⟨_, c', hc', hcr⟩
          · simp at hb
          · simp at hc'; subst hc'
            exact ⟨_, _, h, .one hcr, by simp [execOp, hx, Instr.extract, hu]⟩
        · exact h.elim
    · exact h.elim
  · -- nilCheck
    rename_i x
    split at h
    · rename_i p oo he
      have e1 := hev x; rw [he] at e1
      refine ⟨_, _, h, e1, ?_⟩
      generalize hx : a.eval x = xv at e1
      cases vr_one e1; simp [execOp, hx]
    · rename_i he
      have e1 := hev x; rw [he] at e1
      refine ⟨_, _, h, e1, ?_⟩
      generalize hx : a.eval x = xv at e1
      cases vr_one e1; simp [execOp, hx]
    · rename_i he
      have e1 := hev x; rw [he] at e1
      refine ⟨_, _, h, e1, ?_⟩
      generalize hx : a.eval x = xv at e1
      cases vr_one e1; simp [execOp, hx]
    · rename_i he
      have e1 := hev x; rw [he] at e1
      have e2 := vr_sc e1
      exact ⟨_, _, h, e1, by simp [execOp, e2]⟩
    · exact h.elim
  · -- build
    rename_i t parts
    have hparts : ∀ (i : Nat) j sv u, (parts.toList.map fun p => (p.1, S.ev p.2))[i]? = some (j, sv) → ((parts.map fun p => (p.1, a.eval p.2)).toList)[i]? = some u → u.1 = j ∧ VR V bs sv u.2 := by
      intro i j sv u h1 h2
      simp only [Array.toList_map, List.getElem?_map, Option.map_eq_some_iff] at h1 h2
      obtain ⟨p, hp, h1⟩ := h1
      obtain ⟨q, hq, rfl⟩ := h2
      rw [hp] at hq; simp at hq; subst hq
      simp at h1; obtain ⟨rfl, rfl⟩ := h1
      exact ⟨rfl, hev _⟩
    split at h
    · rename_i fs sz by_ z _ h1
      obtain ⟨hz, h⟩ := h
      split at h
      · rename_i cs hf
        have hT := tb.ok _ _ h1
        obtain ⟨fields, hu, hfd⟩ := hT.struct rfl
        obtain ⟨zv, hzr, hzc, _⟩ := hT.run_zero hz w
        have hsizes : ∀ fd ∈ fields, (sizeOf fd.type).run P w = .ok (P.cellsOf fd.type) w := by
          intro fd hmem
          obtain ⟨d, hd, hk⟩ := hT.desc
          rw [hu] at hd; simp at hd; subst hd
          simp only [TK.ok, Bool.and_eq_true, Array.all_eq_true] at hk
          obtain ⟨j, hj, rfl⟩ := Array.mem_iff_getElem.1 hmem
          have := hk.2 j hj
          split at this
          · rename_i info hi; simp [sizeOf, typeInfo, hi, Program.cellsOf]
          · simp at this
        have hmap := run_mapM (P := P) (w := w) fields (fun f => do pure (f.offset, ← sizeOf f.type)) (fun f => (f.offset, P.cellsOf f.type)) (fun f hm => by simp [hsizes f hm])
        obtain ⟨us', h3, h4⟩ := fillC_ok _ _ _ (fun i => (fields.map fun f => (f.offset, P.cellsOf f.type))[i]?) _ _ (z.map Z.val) (fun i x hx => by
          simp only [fieldPlaceD] at hx
          split at hx
          · rename_i off ty hfs
            split at hx
            · rename_i i' hi'
              simp at hx; subst hx
              obtain ⟨fd, h5, rfl, rfl, _⟩ := hfd _ _ _ hfs
              obtain ⟨info, h6, h7, _⟩ := (tb.ok _ _ hi').info
              simp [h5, Program.cellsOf, h6, h7]
            · simp at hx
          · simp at hx) (zeros_cr V bs z) (by simp) hparts hf
        refine ⟨_, _, h, .agg h4, ?_⟩
        have hzc' : zv.cells = (z.map Z.val).toArray := by rw [← hzc]
        have hu' := run_underlying hu w
        simp only [execOp, Instr.build, Sem.run_bind, hzr, Result.andThen_ok, hu', hmap, hzc']
        have h3' : Instr.fill (fun x => (fields.map fun f => (f.offset, P.cellsOf f.type))[x]?) (z.map Z.val).toArray (parts.map fun p => (p.1, a.eval p.2)).toList = some us'.toArray := h3
        simp only [h3', Sem.run_pure, Result.andThen_ok]
      · exact h.elim
    · rename_i n e sz by_ z _ h1
      split at h
      · rename_i i hi
        obtain ⟨hz, h⟩ := h
        split at h
        · rename_i cs hf
          have hT := tb.ok _ _ h1
          obtain ⟨zv, hzr, hzc, _⟩ := hT.run_zero hz w
          obtain ⟨us', h3, h4⟩ := fillC_ok _ _ _ (fun j => some (j * i.size, i.size)) _ _ (z.map Z.val) (fun i x hx => hx) (zeros_cr V bs z) (by simp) hparts hf
          refine ⟨_, _, h, .agg h4, ?_⟩
          have hzc' : zv.cells = (z.map Z.val).toArray := by rw [← hzc]
          have hu' := run_underlying (hT.array rfl) w
          have hs' := (tb.ok _ _ hi).run_sizeOf w
          simp only [execOp, Instr.build, Sem.run_bind, hzr, Result.andThen_ok, hu', hs', hzc']
          have h3' : Instr.fill (fun j => some (j * i.size, i.size)) (z.map Z.val).toArray (parts.map fun p => (p.1, a.eval p.2)).toList = some us'.toArray := h3
          simp only [h3', Sem.run_pure, Result.andThen_ok]
        · exact h.elim
      · exact h.elim
    · exact h.elim
  · -- load
    rename_i t x
    split at h
    · rename_i i c hi he
      split at h
      · rename_i cs oo hc
        have e1 := hev x; rw [he] at e1; have e1 := vr_one e1
        obtain ⟨b, base, hv, hcell⟩ := ptrCells_ok hs e1 hc
        obtain ⟨sv, v, hK, hvr, hr⟩ := loadVar_ok (tb.ok _ _ hi) hcell h
        exact ⟨_, _, hK, hvr, by simp [execOp, Instr.loadAt, hv, Instr.sureAddr, hr]⟩
      · exact h.elim
    · exact h.elim
  · -- call
    rename_i c
    exact callValD_ok tb hs h
  · exact h.elim
end
end Go.Proofs.Ytoklfidamhigcaa.D
