/- 'memD' answers as the model does. -/
import Derived.Test.YtoklfidamhigcaaDN
import Derived.Laws.BytesString
namespace Go.Proofs.Ytoklfidamhigcaa.D
open Go.RowKit

section
variable {P : Program} (tb : Tab P) {w0 : World} {M : Rows0} {N : Nat} {V V0 : View} {bs : Loc} {S : St} {a : Act} {w : World}

theorem zeros_len {e : TypeId} {i : TyI} (hi : TyFacts P e i) (hz : i.zero ≠ []) {z : Value} (hzc : z.cells.toList = i.zero.map Z.val) : z.cells.size = i.size := by
  rw [← hi.zlen hz]; have := congrArg List.length hzc; simpa using this

theorem rep_cells (z : Array Value) (n : Nat) : ((Array.range (n * z.size)).map (fun j => z[j % z.size]!)) = (List.replicate n z.toList).flatten.toArray := by
  apply Array.ext'
  simp only [Array.toList_map, Array.toList_range]
  induction n with
  | zero => simp
  | succ n ih =>
    rw [List.replicate_succ, List.flatten_cons, ← ih, Nat.succ_mul, Nat.add_comm, List.range_add, List.map_append]
    congr 1
    · apply List.ext_getElem
      · simp
      · intro m h1 h2
        simp at h1
        simp [Nat.mod_eq_of_lt h1, h1]
    · rw [List.map_map]
      apply List.map_congr_left
      intro m _
      simp

theorem rep_cr (V : View) (bs : Loc) (zs : List Z) : ∀ n, CRs V bs (List.replicate n (zs.map Z.cv)).flatten (List.replicate n (zs.map Z.val)).flatten
  | 0 => by simp; exact .nil
  | n + 1 => by simp only [List.replicate_succ, List.flatten_cons]; exact (zeros_cr V bs zs).append (rep_cr V bs zs n)

theorem zerosD_rd (V : View) (zs : List Z) : RdL V (zs.map Z.val) (zerosD zs) := by
  induction zs with
  | nil => exact .nil
  | cons z zs ih =>
    refine .cons ?_ ih
    cases z <;> first | exact .nil _ _ | exact .sc _

theorem rep_flat (V : View) (zs : List Z) : ∀ n, FlatR V zs.length (List.replicate n (zerosD zs)) (List.replicate n (zs.map Z.val)).flatten
  | 0 => .nil V _
  | n + 1 => by
    have h := zerosD_rd V zs
    have h0 : FlatR V zs.length [zerosD zs] (zs.map Z.val) := by
      have := chunks_flat zs.length 1 (zerosD zs) (zs.map Z.val) h (by simp [zerosD])
      have e : (zerosD zs).take zs.length = zerosD zs := List.take_of_length_le (by simp [zerosD])
      simpa [chunks, e] using this
    have := h0.append (rep_flat V zs n)
    simpa [List.replicate_succ] using this

theorem wrap64_id {x : Int} (h1 : -9223372036854775808 ≤ x) (h2 : x ≤ 9223372036854775807) : IntKind.i64.wrap x = x := by
  have h0 : IntKind.i64.wrap x = (x + 9223372036854775808) % 18446744073709551616 - 9223372036854775808 := by
    simp [IntKind.wrap, IntKind.signed, IntKind.bits]
    split <;> omega
  omega

theorem cell_alloc_fz (w : World) (c : Array Value) (e : TypeId) (fz : Nat × Nat) (j : Nat) : (w.alloc (.cells c e fz)).cell? ⟨w.heap.size, j, none⟩ = c[j]? := by simp [-World.alloc_eq, World.alloc, World.cell?]
theorem frozen_alloc_fz (w : World) (c : Array Value) (e : TypeId) (lo hi j : Nat) : (w.alloc (.cells c e (lo, hi))).frozen? ⟨w.heap.size, j, none⟩ = (decide (lo ≤ j) && decide (j < hi)) := by simp [-World.alloc_eq, World.alloc, World.frozen?]
theorem shape_alloc (w : World) (c : Array Value) (e : TypeId) : (w.alloc (.cells c e)).shape? w.heap.size = some (e, c.size) := by simp [-World.alloc_eq, World.alloc, World.shape?]
theorem freeze_alloc (w : World) (c : Array Value) (e : TypeId) (n : Nat) : (w.alloc (.cells c e)).freeze ⟨w.heap.size, n, none⟩ 1 = w.alloc (.cells c e (n, n + 1)) := by
  simp only [World.freeze, World.alloc]
  simp only [Nat.one_ne_zero, if_false]
  congr 1
  apply Array.ext
  · simp
  · intro i h1 h2
    simp only [Array.getElem_modify, Array.getElem_push]
    simp at h1
    by_cases hi : i = w.heap.size
    · subst hi; simp
    · have : i < w.heap.size := by omega
      simp [this, Ne.symm hi]

theorem wp_does {o : Oper} (hs : Sat1 w0 M N V bs S a w) (h0 : V0.le V) (h1 : ∀ x v, V x = some v → V0 x = some v ∨ w0.heap.size ≤ x.block) (hd : ∀ t, o.dst = some t → t < N) {K : St → Prop} {Q : Exit → Act → World → Prop}
    (h : Does P V bs a w o fun v => K (S.put o.dst v)) : o.wp P a w (fun a' w' => ∃ S', K S' ∧ Sat w0 M N V0 S' a' w') Q := by
  obtain ⟨sv, v, hK, hv, hr⟩ := h
  exact wp_value hr ⟨_, hK, (hs.put hd hv).sat h0 h1⟩

theorem memD_ok (hs : Sat1 w0 M N V bs S a w) (h0 : V0.le V) (h1 : ∀ x v, V x = some v → V0 x = some v ∨ w0.heap.size ≤ x.block) {o : Oper} (hd : ∀ t, o.dst = some t → t < N) {nm : Nat} {K : St → Prop}
    {Q : Exit → Act → World → Prop} (h : memD tb.tb nm S o.op o.dst K) : o.wp P a w (fun a' w' => ∃ S', K S' ∧ Sat w0 M N V0 S' a' w') Q := by
  have hev : ∀ x, VR V bs (S.ev x) (a.eval x) := ev_ok hs.tmps
  unfold memD at h
  split at h
  · -- box
    rename_i t x ho
    split at h
    · rename_i cs hcs
      obtain ⟨⟨hnm, hnm2⟩, hK⟩ := h
      have hc := SV.cells_ok (hev x) hcs
      obtain ⟨h2, h3⟩ := hs.newBox hnm hnm2 (vs := (a.eval x).cells) (t := t) hc
      refine wp_value (v := .pointer (some ⟨w.heap.size, 0, none⟩)) (w' := w.alloc (.cells (a.eval x).cells t)) ?_ ⟨_, hK, (h2.put hd (.one (.ptr h3))).sat h0 h1⟩
      simp [execOp, ho, Instr.box, newVar, newRow]
    · exact h.elim
  · -- alloc
    rename_i t ho
    split at h
    · rename_i i hi
      obtain ⟨⟨hz, hnm, hnm2⟩, hK⟩ := h
      obtain ⟨z, hzr, hzc, _⟩ := (tb.ok _ _ hi).run_zero hz w
      obtain ⟨h2, h3⟩ := hs.newBox hnm hnm2 (vs := z.cells) (t := t) (by rw [hzc]; exact zeros_cr V bs i.zero)
      refine wp_value (v := .pointer (some ⟨w.heap.size, 0, none⟩)) (w' := w.alloc (.cells z.cells t)) ?_ ⟨_, hK, (h2.put hd (.one (.ptr h3))).sat h0 h1⟩
      simp [execOp, ho, Instr.alloc, hzr, newVar, newRow]
    · exact h.elim
  · -- store
    rename_i t x v ho
    split at h
    · rename_i i c cs hi hx hcs
      obtain ⟨⟨hlen, hall⟩, h⟩ := h
      have hcr := SV.cells_ok (hev v) hcs
      have e1 := hev x; rw [hx] at e1; have e1 := vr_one e1
      obtain ⟨b, oo, S', w', hK, hv, hr, hsat⟩ := storeD_ok (P := P) hs h0 h1 e1 hcr (all_one hcr hall) h
      have hsz : (a.eval v).cells.size = i.size := by rw [← hlen, hcr.length]; simp
      obtain ⟨V', bs', g0, g1, g2⟩ := hsat
      refine wp_skip' (w' := w') ?_ ⟨_, hK, (g2.put hd (.one (.dead undef))).sat g0 g1⟩
      simp [execOp, ho, Instr.storeAt, hv, Instr.sureAddr, storeVar, (tb.ok _ _ hi).run_sizeOf, hsz, hr]
    · exact h.elim
  · -- buildSlice
    rename_i t len parts ho
    split at h
    · rename_i e _ _ _ _ htb
      split at h
      · rename_i i hi
        obtain ⟨⟨hz, hnm, hnm2, hsz⟩, h⟩ := h
        split at h
        · rename_i cs hf
          have hI := tb.ok _ _ hi
          obtain ⟨z, hzr, hzc, _⟩ := hI.run_zero hz w
          have hzl := zeros_len hI hz hzc
          have hparts : ∀ (i : Nat) j sv u, (parts.toList.map fun p => (p.1, S.ev p.2))[i]? = some (j, sv) → ((parts.map fun p => (p.1, a.eval p.2)).toList)[i]? = some u → u.1 = j ∧ VR V bs sv u.2 := by
            intro i j sv u h1 h2
            simp only [Array.toList_map, List.getElem?_map, Option.map_eq_some_iff] at h1 h2
            obtain ⟨p, hp, h1⟩ := h1
            obtain ⟨q, hq, rfl⟩ := h2
            rw [hp] at hq; simp at hq; subst hq
            simp at h1; obtain ⟨rfl, rfl⟩ := h1
            exact ⟨rfl, hev _⟩
          obtain ⟨us', h3, h4⟩ := fillC_ok _ _ _ (fun j => some (j * i.size, i.size)) _ _ _ (fun _ _ h => h) (rep_cr V bs i.zero len) (by simp) hparts hf
          obtain ⟨S', V', bs', ds, hK, hV, hpost, hs', hrd, hnone, hbs⟩ := deepCells_ok _ cs us' _ rfl hs h4 h
          have hul : us'.length = len * i.size := by
            have : ∀ (ps : List (Nat × Value)) (c c' : Array Value), Instr.fill (fun j => some (j * i.size, i.size)) c ps = some c' → c'.size = c.size := by
              intro ps
              induction ps with
              | nil => intro c c' h; simp [Instr.fill] at h; rw [h]
              | cons p ps ih =>
                intro c c' h
                obtain ⟨j, u⟩ := p
                simp only [Instr.fill] at h
                split at h
                · simp at h
                · rw [ih _ _ h, ← Array.foldl_toList]
                  have : ∀ (l : List (Value × Nat)) (c : Array Value), (l.foldl (fun cs x => cs.setIfInBounds (j * i.size + x.2) x.1) c).size = c.size := by
                    intro l
                    induction l with
                    | nil => intro c; rfl
                    | cons y l ih => intro c; simp [ih]
                  exact this _ _
            have := this _ _ _ h3
            simp only [List.size_toArray] at this
            rw [this]
            simp [hI.zlen hz]
          have hflat := chunks_flat i.size len ds us' hrd (by rw [← hrd.length, hul])
          have hnew := hs'.alloc (hnone _ hnm) hnm2 (rowSat_new (t := e) (rest := []) hflat)
          simp only [List.append_nil] at hnew
          refine wp_value (v := .slice (some ⟨w.heap.size, 0, none⟩) len len) (w' := w.alloc (.cells us'.toArray e)) ?_ ⟨_, hK, ?_⟩
          · have hu1 := fun w => Go.run_underlying ((tb.ok _ _ htb).slice rfl) w
            have hz1 := fun w => hI.run_sizeOf w
            have hsz' : ¬ (len * i.size > 2 ^ 24) := by omega
            have hrep := rep_cells z.cells len
            rw [hzl, hzc] at hrep
            have h3' : Instr.fill (fun j => some (j * i.size, i.size)) ((Array.range (len * i.size)).map (fun j => z.cells[j % i.size]!)) (parts.map fun p => (p.1, a.eval p.2)).toList = some us'.toArray := by
              rw [hrep]; exact h3
            have hr0 : ∀ f : Nat → Value, Array.map f (Array.range 0) = #[] := fun f => by apply Array.ext'; simp
            simp only [Array.toList_map] at h3'
            by_cases hzero : len * i.size = 0
            · rw [hzero, hr0] at h3'
              simp only [execOp, ho, Instr.buildSlice, hu1, hz1, hzero, newRow, Sem.run_bind, Result.andThen_ok, if_true, Sem.run_pure, hr0, Array.toList_map, h3']
              simp
            · simp only [gt_iff_lt] at hsz'
              simp [execOp, ho, Instr.buildSlice, hu1, hz1, hsz', hzero, hzr, hzl, newRow, h3']
          · refine (hnew.put hd (.one ?_)).sat (h0.trans hV) (fun x v hx => (hpost x v hx).elim (h1 x v) .inr)
            have := CR.os (V := V') (bs := upd bs' nm (some (w.heap.size, us'.length))) (p := nm) (k := i.size) (off := 0) (len := len) (cap := len) (upd_same _ _ _) (Nat.le_refl _) (by rw [hul]; simp)
            simpa using this
        · exact h.elim
      · exact h.elim
    · exact h.elim
  · -- makeSlice
    rename_i t l c ho
    split at h
    · rename_i e _ _ _ _ htb
      split at h
      · rename_i i hi
        obtain ⟨k1, l', hl, h⟩ := mapInt_ok hs h
        obtain ⟨k2, c', hc, ⟨hz, hnm, hnm2, hl0, hlc, hc40, hcb⟩, hK⟩ := mapInt_ok hs h
        have hI := tb.ok _ _ hi
        obtain ⟨z, hzr, hzc, _⟩ := hI.run_zero hz w
        have hzl := zeros_len hI hz hzc
        have hw1 : IntKind.i64.wrap l' = l' := wrap64_id (by omega) (by omega)
        have hw2 : IntKind.i64.wrap c' = c' := wrap64_id (by omega) (by omega)
        obtain ⟨ln, rfl⟩ : ∃ ln : Nat, l' = ln := ⟨l'.toNat, by omega⟩
        obtain ⟨cn, rfl⟩ : ∃ cn : Nat, c' = cn := ⟨c'.toNat, by omega⟩
        have hflat := rep_flat V i.zero ln
        rw [hI.zlen hz] at hflat
        have hsplit : (List.replicate cn (i.zero.map Z.val)).flatten = (List.replicate ln (i.zero.map Z.val)).flatten ++ (List.replicate (cn - ln) (i.zero.map Z.val)).flatten := by
          rw [← List.flatten_append, List.replicate_append_replicate]; congr 2; omega
        have hnew := hs.alloc hnm hnm2 (rowSat_new (t := e) (rest := (List.replicate (cn - ln) (i.zero.map Z.val)).flatten) hflat)
        rw [← hsplit] at hnew
        simp only [Int.toNat_natCast] at hK
        refine wp_value (v := .slice (some ⟨w.heap.size, 0, none⟩) ln cn) (w' := w.alloc (.cells ((List.replicate cn (i.zero.map Z.val)).flatten).toArray e)) ?_ ⟨_, hK, ?_⟩
        · have hu1 := fun w => Go.run_underlying ((tb.ok _ _ htb).slice rfl) w
          have hz1 := fun w => hI.run_sizeOf w
          obtain ⟨info, hinf, _, hs2, _⟩ := hI.info
          have hrep := rep_cells z.cells cn
          rw [hzl, hzc] at hrep
          have hcb' : (i.bytes : Int) * (cn : Int) ≤ 281474976710656 := by simpa using hcb
          have ht5 : ¬ ((cn : Int) < 0 ∨ 281474976710656 < (i.bytes : Int) * (cn : Int)) := by
            rintro (h | h)
            · omega
            · exact absurd hcb' (Int.not_le.2 h)
          have ht6 : ¬ ((ln : Int) < 0 ∨ cn < ln) := by omega
          have hr0 : ∀ f : Nat → Value, Array.map f (Array.range 0) = #[] := fun f => by apply Array.ext'; simp
          by_cases hzero : cn * i.size = 0
          · rw [hzero, hr0] at hrep
            simp [execOp, ho, Instr.makeSlice, hu1, hz1, hl, hc, asInt, asIntOf, hw1, hw2, typeInfo, hinf, hs2, ht5, ht6, hzero, newRow, ← hrep, hr0]
          · simp [execOp, ho, Instr.makeSlice, hu1, hz1, hl, hc, asInt, asIntOf, hw1, hw2, typeInfo, hinf, hs2, ht5, ht6, hzero, newRow, hzr, hzl, hrep]
        · refine (hnew.put hd (.one ?_)).sat h0 h1
          have hrl : ((List.replicate cn (i.zero.map Z.val)).flatten).length = cn * i.size := by simp [hI.zlen hz]
          have := CR.os (V := V) (bs := upd bs nm (some (w.heap.size, ((List.replicate cn (i.zero.map Z.val)).flatten).length))) (p := nm) (k := i.size) (off := 0) (len := ln) (cap := cn) (upd_same _ _ _) (by omega) (by rw [hrl]; simp)
          simpa using this
      · exact h.elim
    · exact h.elim
  · -- call
    rename_i c ho
    split at h
    · rename_i s x t t' h2 h3 h4
      have ho' : o.op = .call { callee := .builtin .append, args := #[s, x], argTypes := #[t, t'] } := by
        obtain ⟨c1, c2, c3⟩ := c
        simp only at h2 h3 h4
        have h3 : c2 = #[s, x] := by apply Array.ext'; simpa using h3
        have h4 : c3 = #[t, t'] := by apply Array.ext'; simpa using h4
        subst h2; subst h3; subst h4; exact ho
      exact appD_ok tb hs h0 h1 hd ho' h
    · obtain ⟨dst, op, type, pos, after, guard⟩ := o
      simp only at ho h hd
      subst ho
      exact wp_does hs h0 h1 hd (callValD_ok tb hs h)
  · -- convert
    rename_i src dstT x ho
    split at h
    · rename_i _ _ _ _ e _ _ _ _ s h2 h3 he
      split at h
      · rename_i _ _ _ _ h4
        obtain ⟨⟨hnm, hnm2⟩, hK⟩ := h
        have e1 := hev x; rw [he] at e1; have e1 := vr_sc e1
        have hu1 := fun w => Go.run_underlying ((tb.ok _ _ h2).string rfl) w
        have hu2 := fun w => Go.run_underlying ((tb.ok _ _ h3).slice rfl) w
        have hu3 := fun w => Go.run_underlying ((tb.ok _ _ h4).int rfl) w
        have hq : (Question.appendCap s.size 0 e).forced = false := rfl
        let c := (Question.appendCap s.size 0 e).cut (w.tape w.drawn (.appendCap s.size 0 e))
        have hcge : s.size ≤ c := by simp only [c, Question.cut]; omega
        let us : List Value := s.data.toList.map fun b => .int .u8 b.toNat
        let rest : List Value := List.replicate (c - s.size) (.int .u8 0)
        have hsd : Sat1 w0 M N V bs S a w.drew := hs.drew _
        have hul : us.length = s.size := by simp [us]
        have hflat : FlatR V 1 (s.data.toList.map fun b => [.sc (.int .u8 b.toNat)]) us := by
          refine ⟨by simp [us], ?_, fun i j hi hj => ?_⟩
          · intro e he; simp only [List.mem_map] at he; obtain ⟨b, _, rfl⟩ := he; rfl
          · simp at hj; subst hj
            simp at hi
            refine ⟨.int .u8 s.data[i].toNat, by simp [us, hi], ?_⟩
            simp only [List.getElem_map, List.getElem_cons_zero]
            exact .sc _
        have hrow := rowSat_new (V := V) (bs := bs) (w := w.drew) (t := e) (rest := rest) hflat
        have hn : (us ++ rest).length = c := by simp [hul, rest]; omega
        have hsize : (us ++ rest).toArray.size = c := by rw [List.size_toArray]; exact hn
        have hrow' : RowSat V bs (w.drew.alloc (.cells (us ++ rest).toArray e (c, c + 1))) w.drew.heap.size (us ++ rest).length (.own 1 (s.data.toList.map fun b => [.sc (.int .u8 b.toNat)])) := by
          obtain ⟨r1, r2, r3, r4⟩ := hrow
          have hc : ∀ j, (w.drew.alloc (.cells (us ++ rest).toArray e (c, c + 1))).cell? ⟨w.drew.heap.size, j, none⟩ = (w.drew.alloc (.cells (us ++ rest).toArray e)).cell? ⟨w.drew.heap.size, j, none⟩ := fun j => by
            rw [cell_alloc_fz, World.cell?_alloc_new]
          refine ⟨r1, fun j hj => ⟨by rw [hc]; exact (r2 j hj).1, ?_⟩, r3, fun i j hi hj => by obtain ⟨v, h5, h6⟩ := r4 i j hi hj; exact ⟨v, by rw [hc]; exact h5, h6⟩⟩
          rw [hn] at hj
          rw [frozen_alloc_fz]; simp; omega
        have hnew := hsd.alloc hnm hnm2 hrow'
        refine wp_value (v := .slice (some ⟨w.heap.size, 0, none⟩) s.size c) (w' := w.drew.alloc (.cells (us ++ rest).toArray e (c, c + 1))) ?_ ⟨_, hK, ?_⟩
        · have hobj : (s.data.map fun b => Value.int .u8 b.toNat) ++ Array.replicate (c - s.size) (.int .u8 0) = (us ++ rest).toArray := by apply Array.ext'; simp [us, rest]
          have hfr := freeze_alloc w.drew (us ++ rest).toArray e c
          have hshape := shape_alloc w.drew (us ++ rest).toArray e
          rw [hsize] at hshape
          have hwd : w.drew.heap.size = w.heap.size := rfl
          rw [hwd] at hfr hshape
          have hobj' : (s.data.map fun b => Value.int .u8 b.toNat) ++ Array.replicate ((Question.appendCap s.size 0 e).cut (w.tape w.drawn (.appendCap s.size 0 e)) - s.size) (.int .u8 0) = (us ++ rest).toArray := hobj
          simp [-List.append_toArray, execOp, ho, e1, convert, hu1, hu2, hu3, Conv.stringToBytes, hq, newRow, markStringish, hobj', hshape, hfr, c]
        · refine (hnew.put hd (.one ?_)).sat h0 h1
          have := CR.os (V := V) (bs := upd bs nm (some (w.drew.heap.size, (us ++ rest).length))) (p := nm) (k := 1) (off := 0) (len := s.size) (cap := c) (upd_same _ _ _) hcge (by rw [hn]; simp)
          simpa using this
      · exact h.elim
    · exact h.elim
    · rename_i e _ _ _ _ _ _ _ v hns h2 h3 he
      split at h
      · rename_i _ _ _ _ h4
        obtain ⟨es, us, ⟨bl, hes, hK⟩, hf, hl, hsrc⟩ := srcD_ok hs (hev x) h
        have hu1 := (tb.ok _ _ h2).slice rfl
        have hu2 := (tb.ok _ _ h3).string rfl
        have hu3 := (tb.ok _ _ h4).int rfl
        have hus : us = bl.map fun b => Value.int .u8 b.toNat := by
          apply List.ext_getElem?
          intro i
          by_cases hi : i < bl.length
          · subst hes
            obtain ⟨u, h5, h6⟩ := hf.2.2 i 0 (by simpa using hi) (by simp)
            rw [Nat.mul_one, Nat.add_zero] at h5
            rw [h5]
            simp only [List.getElem_map, List.getElem_cons_zero] at h6
            cases h6
            simp [hi]
          · rw [List.getElem?_eq_none (by rw [hf.1, hes]; simp; omega), List.getElem?_eq_none (by simp; omega)]
        have hfold : ∀ (l : List UInt8) (acc : ByteArray), (l.map fun b => (b.toNat : Int)).foldl (fun r n => r.push (UInt8.ofNat n.toNat)) acc = ⟨acc.data ++ l.toArray⟩ := by
          intro l
          induction l with
          | nil => intro acc; simp
          | cons b l ih => intro acc; rw [List.map_cons, List.foldl_cons, ih]; simp [ByteArray.push]
        rcases hsrc with ⟨ad, cap, hv⟩ | ⟨s, hv⟩
        · refine wp_value (v := .string ⟨bl.toArray⟩) (w' := w) ?_ ⟨_, hK, (hs.put hd (.one (.dv (.sc _)))).sat h0 h1⟩
          have hrun : (convert src dstT (a.eval x)).run P w = .ok (.string ⟨bl.toArray⟩) w := by
            rw [hv, run_convert_bytes_string w src dstT _ ad es.length cap hu1 hu3 hu2]
            cases ad with
            | none =>
              have h7 := (hl w fun _ => rfl).2 es.length (Nat.le_refl _)
              rw [hv] at h7
              have h8 : us.take (es.length * 1) = us := by rw [← hf.1]; exact List.take_length
              rw [h8] at h7
              have h9 : us = [] := by
                simp only [Builtin.firstCells, Sem.run_pure] at h7
                injection h7 with h7
                simpa using h7.symm
              have h10 : bl = [] := by
                have := hf.1; rw [h9, hes] at this; simp at this
                exact List.length_eq_zero_iff.1 this.symm
              subst h10
              simp [Conv.bytesToString]
              rfl
            | some ad =>
              have h7 := (hl w fun _ => rfl).2 es.length (Nat.le_refl _)
              rw [hv] at h7
              have h8 : us.take (es.length * 1) = us := by rw [← hf.1]; exact List.take_length
              rw [h8] at h7
              have h9 : (loadCells ad es.length).run P w = .ok ((bl.map fun b => (b.toNat : Int)).map (Value.int .u8)).toArray w := by
                simp only [Builtin.firstCells, Nat.mul_one] at h7
                rw [h7, hus]; simp
              rw [run_bytesToString w ad es.length cap _ h9, hfold]
              simp
          simp [execOp, ho, hrun]
        · exfalso
          have h5 := hev x; rw [hv] at h5
          generalize hsv : S.ev x = sv at h5 h
          cases h5 with
          | one h5 => cases h5 with
            | dv h5 => cases h5 with
              | sc => exact he _ hsv
            | dead => simp [srcD] at h
      · exact h.elim
    · exact wp_does hs h0 h1 hd (valD_ok tb hs h)
  · exact wp_does hs h0 h1 hd (valD_ok tb hs h)
end
end Go.Proofs.Ytoklfidamhigcaa.D
