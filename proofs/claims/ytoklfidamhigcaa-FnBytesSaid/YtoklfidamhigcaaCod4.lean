/- Lists of texts written, by both: with their limits. -/
import Derived.Test.YtoklfidamhigcaaCod3
namespace Go.Proofs.Ytoklfidamhigcaa.D
open Go.RowKit
set_option maxRecDepth 100000
set_option maxHeartbeats 4000000
set_option linter.unusedVariables false
set_option linter.unusedSimpArgs false

def ptC (ts : List (List UInt8)) : Int := if ts.length > 4096 ∨ total ts > 1048576 ∨ (putT ts).length > 1048576 then 2 else 0
def ptB (ts : List (List UInt8)) : List UInt8 := if ptC ts = 0 then putT ts else []
abbrev ptR (ts : List (List UInt8)) : SV := .tup [(false, [.os 0 1 0 (ptB ts).length]), (false, [cI (ptC ts)])]
theorem ptErr {ts : List (List UInt8)} (h : ts.length > 4096 ∨ total ts > 1048576 ∨ (putT ts).length > 1048576) : SV.tup [(false, [.os 0 1 0 0]), (false, [cI 2])] = ptR ts ∧ [Row.own 1 []] = [Row.own 1 ((ptB ts).map byD)] := by
  have c : ptC ts = 2 := if_pos h
  rw [ptR, ptB, c, if_neg (by omega)]
  exact ⟨rfl, rfl⟩
theorem ptGood {ts : List (List UInt8)} (h : ¬ (ts.length > 4096 ∨ total ts > 1048576 ∨ (putT ts).length > 1048576)) : SV.tup [(false, [.os 0 1 0 (putT ts).length]), (false, [cI 0])] = ptR ts ∧ [Row.own 1 ((putT ts).map byD)] = [Row.own 1 ((ptB ts).map byD)] := by
  have c : ptC ts = 0 := if_neg h
  rw [ptR, ptB, c, if_pos rfl]
  exact ⟨rfl, rfl⟩
theorem i_PutTexts (ts : List (List UInt8)) (hl : ts.length ≤ 2 ^ 30) (hs : total ts ≤ 2 ^ 40) :
    CallD Try.prog id_impl_PutTexts [vTs ts] [] (ptR ts) [.own 1 ((ptB ts).map byD)] := by
  refine F_impl_PutTexts ?_
  try (conv => whnf)
  repeat' (first
    | (refine Pick.mk ?_ ?_ ?_; rotate_left; (focus (exact List.length_map _)); conv => whnf)
    | (refine SeqJ.thru ?_; conv => whnf)
    | (refine br_dec (fun _ => ?_) (fun _ => ?_) <;> first | (exfalso; omega) | contradiction | conv => whnf)
    | (refine br_not ?_; conv => whnf)
    | (refine br_bne (fun _ => ?_) (fun _ => ?_) <;> first | (exfalso; omega) | contradiction | conv => whnf)
    | (refine br_beq (fun _ => ?_) (fun _ => ?_) <;> first | (exfalso; omega) | contradiction | conv => whnf))
  · refine Out.mk false [0, 1, 2, 3, 4] [(0, 1)] ?_
    try (conv => whnf)
    repeat (refine Need.mk ?_ ?_; (focus ((first | exact flat_by _ | exact flat_in _ | exact flat_st _ | exact flat_ts _ | exact flat_bo _ | exact flat_cl rfl))); conv => whnf)
    exact ⟨ptErr (ts := ts) (by omega)⟩
  · refine LoopE.mk (fun i : Nat => mk [(0, vTs ts), (4, vI .i64 (total (ts.take i))), (11, vTs ts), (12, vI .i64 ts.length), (13, vI .i64 i)] [])
      (fun i => i ≤ ts.length ∧ total (ts.take i) ≤ 1048576) (fun i => ts.length - i) 0 (by simp [total]) (LeX.of ?_) ?_
    · try (conv => whnf)
      repeat (refine Need.mk ?_ ?_; (focus (first | omega | (simp; done) | rfl)); conv => whnf)
      trivial
    · rintro i ⟨hi, hb⟩
      rcases Nat.lt_or_ge i ts.length with hlt | hge
      · have b3 := total_get hlt
        have e := total_take hlt
        have b4 := total_take_le ts (i + 1)
        try (conv => whnf)
        repeat' (first
          | (refine Pick.mk ?_ ?_ ?_; rotate_left; (focus (first | exact size_bs _ | (refine wid ?_ ?_ <;> omega) | (refine pick_nat _ _ _ ?_; omega))); conv => whnf)
          | (refine SeqJ.thru ?_; conv => whnf)
          | (refine br_dec (fun _ => ?_) (fun _ => ?_) <;> first | (exfalso; omega) | contradiction | conv => whnf)
          | (refine br_not ?_; conv => whnf)
          | (refine br_bne (fun _ => ?_) (fun _ => ?_) <;> first | (exfalso; omega) | contradiction | conv => whnf)
          | (refine br_beq (fun _ => ?_) (fun _ => ?_) <;> first | (exfalso; omega) | contradiction | conv => whnf))
        · refine Out.mk false [0, 1, 2, 3, 4] [(0, 1)] ?_
          try (conv => whnf)
          repeat (refine Need.mk ?_ ?_; (focus ((first | exact flat_by _ | exact flat_in _ | exact flat_st _ | exact flat_ts _ | exact flat_bo _ | exact flat_cl rfl))); conv => whnf)
          exact ⟨ptErr (ts := ts) (by omega)⟩
        · refine Pick.mk (i + 1) (by constructor <;> first | omega | (simp only []; omega)) (LeX.of ?_)
          try (conv => whnf)
          repeat (refine Need.mk ?_ ?_; (focus (first | omega | (simp; done))); conv => whnf)
          trivial
      · rw [List.take_of_length_le hge] at hb ⊢
        have b5 := putTs_len ts [] (by omega)
        have b6 := put_len (n := ts.length) (by omega)
        try (conv => whnf)
        repeat' (first
          | (refine SeqJ.thru ?_; conv => whnf)
          | (refine br_dec (fun _ => ?_) (fun _ => ?_) <;> first | (exfalso; omega) | contradiction | conv => whnf)
          | (refine br_not ?_; conv => whnf)
          | (refine br_bne (fun _ => ?_) (fun _ => ?_) <;> first | (exfalso; omega) | contradiction | conv => whnf)
          | (refine br_beq (fun _ => ?_) (fun _ => ?_) <;> first | (exfalso; omega) | contradiction | conv => whnf))
        refine Hand.mk [] ?_
        try (conv => whnf)
        refine CallW.d (i_appendTexts_nil ts (by omega) (by omega)) ?_
        try (conv => whnf)
        repeat (refine SeqJ.thru ?_; conv => whnf)
        try (conv => whnf)
        repeat' (first
          | (refine br_dec (fun _ => ?_) (fun _ => ?_) <;> first | (exfalso; omega) | contradiction | conv => whnf)
          | (refine br_not ?_; conv => whnf)
          | (refine br_bne (fun _ => ?_) (fun _ => ?_) <;> first | (exfalso; omega) | contradiction | conv => whnf)
          | (refine br_beq (fun _ => ?_) (fun _ => ?_) <;> first | (exfalso; omega) | contradiction | conv => whnf))
        · refine Out.mk false [0, 1, 2, 3, 4] [(0, 1)] ?_
          try (conv => whnf)
          repeat (refine Need.mk ?_ ?_; (focus ((first | exact flat_by _ | exact flat_in _ | exact flat_st _ | exact flat_ts _ | exact flat_bo _ | exact flat_cl rfl))); conv => whnf)
          exact ⟨ptErr (ts := ts) (by omega)⟩
        · refine Out.mk false [0, 1, 2, 3, 4] [] ?_
          try (conv => whnf)
          repeat (refine Need.mk ?_ ?_; (focus ((first | exact flat_by _ | exact flat_in _ | exact flat_st _ | exact flat_ts _ | exact flat_bo _ | exact flat_cl rfl))); conv => whnf)
          exact ⟨ptGood (ts := ts) (by omega)⟩
theorem putTs_mono (ts : List (List UInt8)) (i : Nat) : (putTs [] (ts.take i)).length ≤ (putTs [] ts).length := by
  have := congrArg List.length (putTs_append [] (ts.take i) (ts.drop i))
  rw [List.take_append_drop, List.length_append] at this
  omega
theorem s_l01PutTexts (ts : List (List UInt8)) (hl : ts.length ≤ 2 ^ 30) (ht : total ts ≤ 2 ^ 40) :
    CallM Try.prog id_spec_l01PutTexts [vTs ts] [] [] true fun r Lo => ∃ l : List UInt8, Lo = [.own 1 (l.map byD)] ∧ r = .one (.os 0 1 0 l.length) ∧ (l = putT ts ∨ (1048576 < l.length ∧ 1048576 < (putT ts).length)) := by
  refine F_spec_l01PutTexts ?_
  try (conv => whnf)
  repeat (refine Pick.mk ?_ ?_ ?_; rotate_left; (focus (exact List.length_map _)); conv => whnf)
  have b2 := put_len (n := ts.length) (by omega)
  refine Hand.mk [] ?_
  try (conv => whnf)
  refine CallW.d (s_l01Put ts.length (by omega)) ?_
  try (conv => whnf)
  refine LoopE.mk (fun i : Nat => mk [(0, vTs ts), (3, .one (.os 8224 1 0 (put ts.length ++ putTs [] (ts.take i)).length)), (4, vS (bs (lastT (ts.take i)))), (5, vI .i64 i)] [(8224, .own 1 ((put ts.length ++ putTs [] (ts.take i)).map byD))])
    (fun i => i ≤ ts.length) (fun i => ts.length - i) 0 (by omega) (LeX.of ?_) ?_
  · try (conv => whnf)
    repeat (refine Need.mk ?_ ?_; (focus (first | omega | (simp; done) | rfl | (simp [putTs, lastT]; done))); conv => whnf)
    trivial
  · intro i hi
    have b1 := putTs_take_len ht i
    have b6 := lastT_le ts i
    rcases Nat.lt_or_ge i ts.length with hlt | hge
    · have b3 := total_get hlt
      obtain ⟨a1, a2⟩ := alike_le (lastT (ts.take i)) ts[i]
      have b4 := put_len (n := alike (lastT (ts.take i)) ts[i]) (by omega)
      have b5 := put_len (n := ts[i].length - alike (lastT (ts.take i)) ts[i]) (by omega)
      have e := putTs_take hlt
      have b7 := putTs_mono ts (i + 1)
      try (conv => whnf)
      repeat' (first
        | (refine Pick.mk ?_ ?_ ?_; rotate_left; (focus (first | exact List.length_map _ | (refine pick_nat _ _ _ ?_; omega))); conv => whnf)
        | (refine SeqJ.thru ?_; conv => whnf)
        | (refine br_dec (fun _ => ?_) (fun _ => ?_) <;> first | (exfalso; omega) | contradiction | conv => whnf)
        | (refine br_not ?_; conv => whnf)
        | (refine br_bne (fun _ => ?_) (fun _ => ?_) <;> first | (exfalso; omega) | contradiction | conv => whnf)
        | (refine br_beq (fun _ => ?_) (fun _ => ?_) <;> first | (exfalso; omega) | contradiction | conv => whnf))
      refine Hand.mk [] ?_
      try (conv => whnf)
      refine CallW.d (s_l01Alike (lastT (ts.take i)) ts[i] (by omega) (by omega)) ?_
      try (conv => whnf)
      refine Hand.mk [] ?_
      try (conv => whnf)
      refine CallW.d (s_l01Put (alike (lastT (ts.take i)) ts[i]) (by omega)) ?_
      try (conv => whnf)
      repeat (first
        | (refine Need.mk ?_ ?_; (focus (omega)); conv => whnf)
        | (refine Pick.mk ?_ ?_ ?_; rotate_left; (focus (first | exact size_bs _ | (simp only [List.length_map, List.length_append, List.length_cons, List.length_nil, List.length_replicate, Nat.zero_add]; rfl) | with_reducible exact map_app _ _ _ | (refine wid ?_ ?_ <;> omega) | (refine pick_nat _ _ _ ?_; omega) | (refine SlOf.full ?_; first | (simp; done) | (simp; omega)))); conv => whnf))
      rw [castN _ _ a2]
      refine Hand.mk [] ?_
      try (conv => whnf)
      refine CallW.d (s_l01Put (ts[i].length - alike (lastT (ts.take i)) ts[i]) (by omega)) ?_
      try (conv => whnf)
      repeat (first
        | (refine Need.mk ?_ ?_; (focus (first | omega | (simp; omega))); conv => whnf)
        | (refine Pick.mk ?_ ?_ ?_; rotate_left; (focus (first | exact bs_extractN _ _ | (refine bnd_id ?_; omega) | exact size_bs _ | (simp only [List.length_map, List.length_append, List.length_cons, List.length_nil, List.length_replicate, Nat.zero_add]; rfl) | with_reducible exact map_app _ _ _ | (refine pick_nat _ _ _ ?_; omega) | (refine SlOf.full ?_; first | (simp; done) | (simp; omega)))); conv => whnf))
      have e8 : put ts.length ++ putTs [] (ts.take (i + 1)) = put ts.length ++ putTs [] (ts.take i) ++ put (alike (lastT (ts.take i)) ts[i]) ++ put (ts[i].length - alike (lastT (ts.take i)) ts[i]) ++ ts[i].drop (alike (lastT (ts.take i)) ts[i]) := by
        rw [e, ← List.append_assoc, ← List.append_assoc, ← List.append_assoc]
      have e9 := congrArg List.length e8
      have e10 : (putT ts).length = (put ts.length).length + (putTs [] ts).length := by simp [putT]
      simp only [List.length_append, List.length_drop] at e9
      try (conv => whnf)
      repeat' (first
        | (refine Pick.mk ?_ ?_ ?_; rotate_left; (focus ((refine wid ?_ ?_ <;> omega))); conv => whnf)
        | (refine br_dec (fun _ => ?_) (fun _ => ?_) <;> first | (exfalso; omega) | contradiction | conv => whnf)
        | (refine br_not ?_; conv => whnf)
        | (refine br_bne (fun _ => ?_) (fun _ => ?_) <;> first | (exfalso; omega) | contradiction | conv => whnf)
        | (refine br_beq (fun _ => ?_) (fun _ => ?_) <;> first | (exfalso; omega) | contradiction | conv => whnf))
      · refine Out.mk false [0, 1, 2, 3, 4] [] ?_
        try (conv => whnf)
        repeat (refine Need.mk ?_ ?_; (focus ((refine flat_app ?_ ?_ <;> (first | exact flat_by _ | exact flat_in _ | exact flat_st _ | exact flat_ts _ | exact flat_bo _ | exact flat_cl rfl)))); conv => whnf)
        simp only [List.length_drop] at *
        exact ⟨put ts.length ++ putTs [] (ts.take (i + 1)), by rw [e8]; simp, by rw [e8]; simp; omega, .inr ⟨by rw [e8]; simp; omega, by omega⟩⟩
      · refine Pick.mk (i + 1) ⟨by omega, by omega⟩ (LeX.of ?_)
        rw [lastT_take hlt, e8]
        try (conv => whnf)
        repeat (refine Need.mk ?_ ?_; (focus (first | omega | (simp; done) | (simp; omega))); conv => whnf)
        trivial
    · try (conv => whnf)
      repeat' (first
        | (refine Pick.mk ?_ ?_ ?_; rotate_left; (focus (exact List.length_map _)); conv => whnf)
        | (refine SeqJ.thru ?_; conv => whnf)
        | (refine br_dec (fun _ => ?_) (fun _ => ?_) <;> first | (exfalso; omega) | contradiction | conv => whnf)
        | (refine br_not ?_; conv => whnf)
        | (refine br_bne (fun _ => ?_) (fun _ => ?_) <;> first | (exfalso; omega) | contradiction | conv => whnf)
        | (refine br_beq (fun _ => ?_) (fun _ => ?_) <;> first | (exfalso; omega) | contradiction | conv => whnf))
      refine Out.mk false [0, 1, 2, 3, 4] [] ?_
      try (conv => whnf)
      repeat (refine Need.mk ?_ ?_; (focus ((first | exact flat_by _ | exact flat_in _ | exact flat_st _ | exact flat_ts _ | exact flat_bo _ | exact flat_cl rfl))); conv => whnf)
      rw [List.take_of_length_le hge]
      exact ⟨_, rfl, rfl, .inl rfl⟩
theorem s_PutTexts (ts : List (List UInt8)) (hl : ts.length ≤ 2 ^ 30) (hs : total ts ≤ 2 ^ 40) :
    CallD Try.prog id_spec_PutTexts [vTs ts] [] (ptR ts) [.own 1 ((ptB ts).map byD)] := by
  refine F_spec_PutTexts ?_
  try (conv => whnf)
  repeat' (first
    | (refine Pick.mk ?_ ?_ ?_; rotate_left; (focus (first | exact List.length_map _ | (simp only [chunks]; rfl))); conv => whnf)
    | (refine SeqJ.thru ?_; conv => whnf)
    | (refine br_dec (fun _ => ?_) (fun _ => ?_) <;> first | (exfalso; omega) | contradiction | conv => whnf)
    | (refine br_not ?_; conv => whnf)
    | (refine br_bne (fun _ => ?_) (fun _ => ?_) <;> first | (exfalso; omega) | contradiction | conv => whnf)
    | (refine br_beq (fun _ => ?_) (fun _ => ?_) <;> first | (exfalso; omega) | contradiction | conv => whnf))
  · refine Out.mk false [0, 1, 2, 3, 4] [] ?_
    try (conv => whnf)
    repeat (refine Need.mk ?_ ?_; (focus ((first | exact flat_by _ | exact flat_in _ | exact flat_st _ | exact flat_ts _ | exact flat_bo _ | exact flat_cl rfl))); conv => whnf)
    exact ⟨ptErr (ts := ts) (by omega)⟩
  · refine LoopE.mk (fun i : Nat => mk [(0, vTs ts), (4, vI .i64 (total (ts.take i))), (5, vI .i64 i)] [])
      (fun i => i ≤ ts.length) (fun i => ts.length - i) 0 (by simp) (LeX.of ?_) ?_
    · try (conv => whnf)
      repeat (refine Need.mk ?_ ?_; (focus (first | omega | (simp; done) | rfl)); conv => whnf)
      trivial
    · rintro i hi
      have b5 := total_take_le ts i
      rcases Nat.lt_or_ge i ts.length with hlt | hge
      · have b3 := total_get hlt
        have e := total_take hlt
        have b4 := total_take_le ts (i + 1)
        try (conv => whnf)
        repeat' (first
          | (refine Pick.mk ?_ ?_ ?_; rotate_left; (focus (first | exact List.length_map _ | exact size_bs _ | (refine wid ?_ ?_ <;> omega) | (refine pick_nat _ _ _ ?_; omega))); conv => whnf)
          | (refine SeqJ.thru ?_; conv => whnf)
          | (refine br_dec (fun _ => ?_) (fun _ => ?_) <;> first | (exfalso; omega) | contradiction | conv => whnf)
          | (refine br_not ?_; conv => whnf)
          | (refine br_bne (fun _ => ?_) (fun _ => ?_) <;> first | (exfalso; omega) | contradiction | conv => whnf)
          | (refine br_beq (fun _ => ?_) (fun _ => ?_) <;> first | (exfalso; omega) | contradiction | conv => whnf))
        refine Pick.mk (i + 1) (by constructor <;> first | omega | (simp only []; omega)) (LeX.of ?_)
        try (conv => whnf)
        repeat (refine Need.mk ?_ ?_; (focus (first | omega | (simp; done))); conv => whnf)
        trivial
      · rw [List.take_of_length_le hge] at b5 ⊢
        try (conv => whnf)
        repeat' (first
          | (refine Pick.mk ?_ ?_ ?_; rotate_left; (focus (first | exact List.length_map _ | (simp only [chunks]; rfl))); conv => whnf)
          | (refine SeqJ.thru ?_; conv => whnf)
          | (refine br_dec (fun _ => ?_) (fun _ => ?_) <;> first | (exfalso; omega) | contradiction | conv => whnf)
          | (refine br_not ?_; conv => whnf)
          | (refine br_bne (fun _ => ?_) (fun _ => ?_) <;> first | (exfalso; omega) | contradiction | conv => whnf)
          | (refine br_beq (fun _ => ?_) (fun _ => ?_) <;> first | (exfalso; omega) | contradiction | conv => whnf))
        · refine Out.mk false [0, 1, 2, 3, 4] [] ?_
          try (conv => whnf)
          repeat (refine Need.mk ?_ ?_; (focus ((first | exact flat_by _ | exact flat_in _ | exact flat_st _ | exact flat_ts _ | exact flat_bo _ | exact flat_cl rfl))); conv => whnf)
          exact ⟨ptErr (ts := ts) (by omega)⟩
        · refine Hand.mk [] ?_
          try (conv => whnf)
          refine CallW.r (s_l01PutTexts ts (by omega) (by omega)) ?_
          rintro _ _ ⟨l, rfl, rfl, hl⟩
          have b6 := putTs_len ts [] (by omega)
          have b7 := put_len (n := ts.length) (by omega)
          try (conv => whnf)
          repeat' (first
            | (refine Pick.mk ?_ ?_ ?_; rotate_left; (focus ((simp only [chunks]; rfl))); conv => whnf)
            | (refine SeqJ.thru ?_; conv => whnf)
            | (refine br_dec (fun _ => ?_) (fun _ => ?_) <;> first | (exfalso; omega) | contradiction | conv => whnf)
            | (refine br_not ?_; conv => whnf)
            | (refine br_bne (fun _ => ?_) (fun _ => ?_) <;> first | (exfalso; omega) | contradiction | conv => whnf)
            | (refine br_beq (fun _ => ?_) (fun _ => ?_) <;> first | (exfalso; omega) | contradiction | conv => whnf))
          · refine Out.mk false [0, 1, 2, 3, 4] [] ?_
            try (conv => whnf)
            repeat (refine Need.mk ?_ ?_; (focus ((first | exact flat_by _ | exact flat_in _ | exact flat_st _ | exact flat_ts _ | exact flat_bo _ | exact flat_cl rfl))); conv => whnf)
            exact ⟨ptErr (ts := ts) (by rcases hl with rfl | hl <;> omega)⟩
          · rcases hl with rfl | hl
            · refine Out.mk false [0, 1, 2, 3, 4] [] ?_
              try (conv => whnf)
              repeat (refine Need.mk ?_ ?_; (focus ((first | exact flat_by _ | exact flat_in _ | exact flat_st _ | exact flat_ts _ | exact flat_bo _ | exact flat_cl rfl))); conv => whnf)
              exact ⟨ptGood (ts := ts) (by omega)⟩
            · exfalso; omega
end Go.Proofs.Ytoklfidamhigcaa.D
