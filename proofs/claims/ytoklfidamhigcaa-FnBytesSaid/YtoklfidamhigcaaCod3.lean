/- Lists of texts as bytes: written and read, by both. -/
import Derived.Test.YtoklfidamhigcaaCod2
namespace Go.Proofs.Ytoklfidamhigcaa.D
open Go.RowKit
set_option maxRecDepth 100000
set_option maxHeartbeats 4000000
set_option linter.unusedVariables false
set_option linter.unusedSimpArgs false

def lastT (l : List (List UInt8)) : List UInt8 := l.getLast?.getD []
theorem lastT_take {l : List (List UInt8)} {i : Nat} (h : i < l.length) : lastT (l.take (i + 1)) = l[i] := by
  rw [List.take_succ_eq_append_getElem h, lastT, List.getLast?_concat]; rfl
theorem putTs_take {l : List (List UInt8)} {i : Nat} (h : i < l.length) :
    putTs [] (l.take (i + 1)) = putTs [] (l.take i) ++ put (alike (lastT (l.take i)) l[i]) ++ put (l[i].length - alike (lastT (l.take i)) l[i]) ++ l[i].drop (alike (lastT (l.take i)) l[i]) := by
  rw [List.take_succ_eq_append_getElem h, putTs_append]
  simp [putTs, lastT, List.append_assoc]
theorem total_cons (t : List UInt8) (l : List (List UInt8)) : total (t :: l) = t.length + total l := by simp [total]
theorem total_append (a b : List (List UInt8)) : total (a ++ b) = total a + total b := by simp [total]
theorem total_take {l : List (List UInt8)} {i : Nat} (h : i < l.length) : total (l.take (i + 1)) = total (l.take i) + l[i].length := by
  rw [List.take_succ_eq_append_getElem h, total_append]; simp [total]
theorem total_get : ∀ {l : List (List UInt8)} {i : Nat} (h : i < l.length), l[i].length ≤ total l
  | t :: l, 0, _ => by rw [total_cons]; simp
  | t :: l, i + 1, h => by rw [total_cons]; have := total_get (l := l) (i := i) (by simpa using h); simp only [List.getElem_cons_succ]; omega
theorem total_take_le (l : List (List UInt8)) (i : Nat) : total (l.take i) ≤ total l := by
  conv => rhs; rw [← List.take_append_drop i l, total_append]
  omega
theorem lastT_le (l : List (List UInt8)) (i : Nat) : (lastT (l.take i)).length ≤ total l := by
  rcases Nat.eq_zero_or_pos i with h | h
  · subst h; simp [lastT]
  · rcases Nat.lt_or_ge (i - 1) l.length with h1 | h1
    · have := lastT_take h1
      rw [show i - 1 + 1 = i by omega] at this
      rw [this]; exact total_get h1
    · rw [List.take_of_length_le (by omega)]
      rcases l.eq_nil_or_concat with rfl | ⟨a, t, rfl⟩
      · simp [lastT]
      · simp [lastT, total]
theorem putTs_len : ∀ (ts : List (List UInt8)) (last : List UInt8), total ts ≤ 2 ^ 40 → (putTs last ts).length ≤ 18 * ts.length + total ts
  | [], _, _ => by simp [putTs, total]
  | t :: ts, last, h => by
    rw [total_cons] at h
    have h1 := putTs_len ts t (by omega)
    have h2 := alike_le last t
    have h3 := put_len (n := alike last t) (by omega)
    have h4 := put_len (n := t.length - alike last t) (by omega)
    simp only [putTs, List.length_append, List.length_drop, total_cons, List.length_cons]
    omega
theorem putTs_take_len {ts : List (List UInt8)} (h : total ts ≤ 2 ^ 40) (i : Nat) : (putTs [] (ts.take i)).length ≤ 18 * ts.length + total ts := by
  have h1 := total_take_le ts i
  have := putTs_len (ts.take i) [] (by omega)
  have h2 : (ts.take i).length ≤ ts.length := by simp; omega
  omega
theorem castN (a b : Nat) (h : b ≤ a) : (a : Int) - (b : Int) = ((a - b : Nat) : Int) := by omega
theorem i_appendTexts (a : List UInt8) (n : Nat) (ts : List (List UInt8)) (hn : n = a.length) (ha : n ≤ 2 ^ 40) (hl : ts.length ≤ 2 ^ 30) (ht : total ts ≤ 2 ^ 40) :
    CallMD Try.prog id_impl_appendTexts [.one (.os 0 1 0 n), vTs ts] [.own 1 (a.map byD)] [0] (.one (.os 0 1 0 (a ++ putT ts).length)) [.own 1 ((a ++ putT ts).map byD)] := by
  subst hn
  refine F_impl_appendTexts ?_
  try (conv => whnf)
  repeat (refine Pick.mk ?_ ?_ ?_; rotate_left; (focus (exact List.length_map _)); conv => whnf)
  refine Hand.mk [0] ?_
  try (conv => whnf)
  refine CallW.m (i_appendInt a _ ts.length rfl (by omega) (by omega)) ?_
  try (conv => whnf)
  repeat (refine Pick.mk ?_ ?_ ?_; rotate_left; (focus (exact List.length_map _)); conv => whnf)
  refine LoopE.mk (fun i : Nat => mk [(0, .one (.os 0 1 0 ((a ++ put ts.length) ++ putTs [] (ts.take i)).length)), (13, vTs ts), (14, vI .i64 ts.length), (5, vS (bs (lastT (ts.take i)))), (15, vI .i64 i)] [(0, .own 1 (((a ++ put ts.length) ++ putTs [] (ts.take i)).map byD))] [0])
    (fun i => i ≤ ts.length) (fun i => ts.length - i) 0 (by omega) (LeX.of ?_) ?_
  · try (conv => whnf)
    repeat (refine Need.mk ?_ ?_; (focus (first | omega | (simp; done) | rfl | (simp [putTs, lastT]; done))); conv => whnf)
    trivial
  · intro i hi
    have b1 := putTs_take_len ht i
    have b2 := put_len (n := ts.length) (by omega)
    have b6 := lastT_le ts i
    rcases Nat.lt_or_ge i ts.length with hlt | hge
    · have b3 := total_get hlt
      obtain ⟨a1, a2⟩ := alike_le (lastT (ts.take i)) ts[i]
      have b4 := put_len (n := alike (lastT (ts.take i)) ts[i]) (by omega)
      have b5 := put_len (n := ts[i].length - alike (lastT (ts.take i)) ts[i]) (by omega)
      try (conv => whnf)
      repeat' (first
        | (refine Pick.mk ?_ ?_ ?_; rotate_left; (focus ((refine pick_nat _ _ _ ?_; omega))); conv => whnf)
        | (refine SeqJ.thru ?_; conv => whnf)
        | (refine br_dec (fun _ => ?_) (fun _ => ?_) <;> first | (exfalso; omega) | contradiction | conv => whnf)
        | (refine br_not ?_; conv => whnf)
        | (refine br_bne (fun _ => ?_) (fun _ => ?_) <;> first | (exfalso; omega) | contradiction | conv => whnf)
        | (refine br_beq (fun _ => ?_) (fun _ => ?_) <;> first | (exfalso; omega) | contradiction | conv => whnf))
      refine Hand.mk [] ?_
      try (conv => whnf)
      refine CallW.d (i_common (lastT (ts.take i)) ts[i] (by omega) (by omega)) ?_
      try (conv => whnf)
      refine Hand.mk [0] ?_
      try (conv => whnf)
      refine CallW.m (i_appendInt _ _ (alike (lastT (ts.take i)) ts[i]) rfl (by simp; omega) (by omega)) ?_
      try (conv => whnf)
      repeat (refine Pick.mk ?_ ?_ ?_; rotate_left; (focus (first | exact size_bs _ | (refine wid ?_ ?_ <;> omega))); conv => whnf)
      rw [castN _ _ a2]
      refine Hand.mk [0] ?_
      try (conv => whnf)
      refine CallW.m (i_appendInt _ _ (ts[i].length - alike (lastT (ts.take i)) ts[i]) rfl (by simp; omega) (by omega)) ?_
      try (conv => whnf)
      repeat (first
        | (refine Need.mk ?_ ?_; (focus ((simp; omega))); conv => whnf)
        | (refine Pick.mk ?_ ?_ ?_; rotate_left; (focus (first | exact bs_extractN _ _ | (refine bnd_id ?_; omega) | exact size_bs _ | (simp only [List.length_map, List.length_append, List.length_cons, List.length_nil, List.length_replicate, Nat.zero_add]; rfl) | (refine wid ?_ ?_ <;> omega) | (refine SlOf.full ?_; first | (simp; done) | (simp; omega)))); conv => whnf))
      refine Pick.mk (i + 1) ⟨by omega, by omega⟩ (LeX.of ?_)
      rw [lastT_take hlt]
      have e := putTs_take hlt
      rw [e, ← List.append_assoc, ← List.append_assoc, ← List.append_assoc]
      try (conv => whnf)
      repeat (refine Need.mk ?_ ?_; (focus (first | omega | (simp; done) | (simp; omega))); conv => whnf)
      trivial
    · try (conv => whnf)
      repeat' (first
        | (refine SeqJ.thru ?_; conv => whnf)
        | (refine br_dec (fun _ => ?_) (fun _ => ?_) <;> first | (exfalso; omega) | contradiction | conv => whnf)
        | (refine br_not ?_; conv => whnf)
        | (refine br_bne (fun _ => ?_) (fun _ => ?_) <;> first | (exfalso; omega) | contradiction | conv => whnf)
        | (refine br_beq (fun _ => ?_) (fun _ => ?_) <;> first | (exfalso; omega) | contradiction | conv => whnf))
      refine Out.mk false [0, 1, 2, 3, 4] [] ?_
      try (conv => whnf)
      repeat (refine Need.mk ?_ ?_; (focus ((first | exact flat_by _ | exact flat_in _ | exact flat_st _ | exact flat_ts _ | exact flat_bo _ | exact flat_cl rfl))); conv => whnf)
      rw [List.take_of_length_le hge]
      exact ⟨by simp [putT], by simp [putT]⟩
theorem i_appendTexts_nil (ts : List (List UInt8)) (hl : ts.length ≤ 2 ^ 30) (ht : total ts ≤ 2 ^ 40) :
    CallD Try.prog id_impl_appendTexts [.one .nil, vTs ts] [] (.one (.os 0 1 0 (putT ts).length)) [.own 1 ((putT ts).map byD)] := by
  refine F_impl_appendTexts ?_
  try (conv => whnf)
  repeat (refine Pick.mk ?_ ?_ ?_; rotate_left; (focus (exact List.length_map _)); conv => whnf)
  refine Hand.mk [] ?_
  try (conv => whnf)
  refine CallW.d (i_appendInt_nil ts.length (by omega)) ?_
  try (conv => whnf)
  repeat (refine Pick.mk ?_ ?_ ?_; rotate_left; (focus (exact List.length_map _)); conv => whnf)
  refine LoopE.mk (fun i : Nat => mk [(0, .one (.os 8240 1 0 (put ts.length ++ putTs [] (ts.take i)).length)), (13, vTs ts), (14, vI .i64 ts.length), (5, vS (bs (lastT (ts.take i)))), (15, vI .i64 i)] [(8240, .own 1 ((put ts.length ++ putTs [] (ts.take i)).map byD))] [])
    (fun i => i ≤ ts.length) (fun i => ts.length - i) 0 (by omega) (LeX.of ?_) ?_
  · try (conv => whnf)
    repeat (refine Need.mk ?_ ?_; (focus (first | omega | (simp; done) | rfl | (simp [putTs, lastT]; done))); conv => whnf)
    trivial
  · intro i hi
    have b1 := putTs_take_len ht i
    have b2 := put_len (n := ts.length) (by omega)
    have b6 := lastT_le ts i
    rcases Nat.lt_or_ge i ts.length with hlt | hge
    · have b3 := total_get hlt
      obtain ⟨a1, a2⟩ := alike_le (lastT (ts.take i)) ts[i]
      have b4 := put_len (n := alike (lastT (ts.take i)) ts[i]) (by omega)
      have b5 := put_len (n := ts[i].length - alike (lastT (ts.take i)) ts[i]) (by omega)
      try (conv => whnf)
      repeat' (first
        | (refine Pick.mk ?_ ?_ ?_; rotate_left; (focus ((refine pick_nat _ _ _ ?_; omega))); conv => whnf)
        | (refine SeqJ.thru ?_; conv => whnf)
        | (refine br_dec (fun _ => ?_) (fun _ => ?_) <;> first | (exfalso; omega) | contradiction | conv => whnf)
        | (refine br_not ?_; conv => whnf)
        | (refine br_bne (fun _ => ?_) (fun _ => ?_) <;> first | (exfalso; omega) | contradiction | conv => whnf)
        | (refine br_beq (fun _ => ?_) (fun _ => ?_) <;> first | (exfalso; omega) | contradiction | conv => whnf))
      refine Hand.mk [] ?_
      try (conv => whnf)
      refine CallW.d (i_common (lastT (ts.take i)) ts[i] (by omega) (by omega)) ?_
      try (conv => whnf)
      refine Hand.mk [0] ?_
      try (conv => whnf)
      refine CallW.m (i_appendInt _ _ (alike (lastT (ts.take i)) ts[i]) rfl (by simp; omega) (by omega)) ?_
      try (conv => whnf)
      repeat (refine Pick.mk ?_ ?_ ?_; rotate_left; (focus (first | exact size_bs _ | (refine wid ?_ ?_ <;> omega))); conv => whnf)
      rw [castN _ _ a2]
      refine Hand.mk [0] ?_
      try (conv => whnf)
      refine CallW.m (i_appendInt _ _ (ts[i].length - alike (lastT (ts.take i)) ts[i]) rfl (by simp; omega) (by omega)) ?_
      try (conv => whnf)
      repeat (first
        | (refine Need.mk ?_ ?_; (focus ((simp; omega))); conv => whnf)
        | (refine Pick.mk ?_ ?_ ?_; rotate_left; (focus (first | exact bs_extractN _ _ | (refine bnd_id ?_; omega) | exact size_bs _ | (simp only [List.length_map, List.length_append, List.length_cons, List.length_nil, List.length_replicate, Nat.zero_add]; rfl) | (refine wid ?_ ?_ <;> omega) | (refine SlOf.full ?_; first | (simp; done) | (simp; omega)))); conv => whnf))
      refine Pick.mk (i + 1) ⟨by omega, by omega⟩ (LeX.of ?_)
      rw [lastT_take hlt]
      have e := putTs_take hlt
      rw [e, ← List.append_assoc, ← List.append_assoc, ← List.append_assoc]
      try (conv => whnf)
      repeat (refine Need.mk ?_ ?_; (focus (first | omega | (simp; done) | (simp; omega))); conv => whnf)
      trivial
    · try (conv => whnf)
      repeat' (first
        | (refine SeqJ.thru ?_; conv => whnf)
        | (refine br_dec (fun _ => ?_) (fun _ => ?_) <;> first | (exfalso; omega) | contradiction | conv => whnf)
        | (refine br_not ?_; conv => whnf)
        | (refine br_bne (fun _ => ?_) (fun _ => ?_) <;> first | (exfalso; omega) | contradiction | conv => whnf)
        | (refine br_beq (fun _ => ?_) (fun _ => ?_) <;> first | (exfalso; omega) | contradiction | conv => whnf))
      refine Out.mk false [0, 1, 2, 3, 4] [] ?_
      try (conv => whnf)
      repeat (refine Need.mk ?_ ?_; (focus ((first | exact flat_by _ | exact flat_in _ | exact flat_st _ | exact flat_ts _ | exact flat_bo _ | exact flat_cl rfl))); conv => whnf)
      rw [List.take_of_length_le hge]
      exact ⟨by simp [putT], by simp [putT]⟩
end Go.Proofs.Ytoklfidamhigcaa.D
