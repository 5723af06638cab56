/- The law of bytes, as a call that gives back true. -/
import Derived.Test.YtoklfidamhigcaaByB
import Derived.Test.YtoklfidamhigcaaByC
import Derived.Test.YtoklfidamhigcaaDrawA
import Derived.Test.YtoklfidamhigcaaVecD
namespace Go.Proofs.Ytoklfidamhigcaa.D
open Go.RowKit
set_option maxRecDepth 100000
set_option maxHeartbeats 4000000
set_option linter.unusedVariables false
set_option linter.unusedSimpArgs false

theorem s_DrawVecBytes (code : List UInt8) (hc : code.length ≤ 2 ^ 40) : CallM Try.prog id_spec_DrawVecBytes [vY code] [] [] false fun r Lo => ∃ v : List Int, Lo = [] ∧ r = vV v ∧ v.length ≤ 17 := by
  refine F_spec_DrawVecBytes ?_
  try (conv => whnf)
  refine Hand.mk [] ?_
  try (conv => whnf)
  refine CallW.n (s_l01Source code hc) ?_
  rintro _ _ ⟨s, rfl, rfl, hS⟩
  try (conv => whnf)
  refine Hand.mk [] ?_
  try (conv => whnf)
  refine CallW.n (s_oddVector hS (by omega)) ?_
  rintro _ _ ⟨a1, s1, _, rfl, hS1, v1, rfl, rfl, hv1⟩
  try (conv => whnf)
  refine Out.mk true [] [] ?_
  try (conv => whnf)
  exact ⟨v1, rfl, rfl, hv1⟩
theorem pi_ok (n : Nat) (h : n ≤ 4611686018427387903) : CallD Try.prog id_impl_PutInt [vI .i64 n] [] (.tup [(false, [.os 0 1 0 (put n).length]), (false, [cI 0])]) [.own 1 ((put n).map byD)] := by
  have := i_PutInt n (by omega)
  rw [if_pos (by omega), if_pos (by omega), Int.toNat_natCast] at this
  exact this
theorem pi_bad (v : Int) (hv : i64ok v) (h : ¬ (0 ≤ v ∧ v ≤ 4611686018427387903)) : CallD Try.prog id_impl_PutInt [vI .i64 v] [] (.tup [(false, [.os 0 1 0 0]), (false, [cI 4])]) [.own 1 []] := by
  have := i_PutInt v hv
  rw [if_neg h, if_neg h] at this
  exact this
theorem gi_ok (n : Nat) (h : n ≤ 4611686018427387903) : CallD Try.prog id_impl_GetInt [vY (9 :: put n), vI .i64 1] [] (.tup [(false, [cI n]), (false, [cI (1 + (put n).length : Nat)]), (false, [cI 0])]) [] := by
  have hp := put_len (n := n) (by omega)
  have hg := get_put [9] [] n (by simp only [MaxN]; omega)
  simp only [List.append_nil] at hg
  exact i_GetInt (l := 9 :: put n) (a := 1) hg (by simp; omega) (by simp)
theorem vb_ok {v : List Int} (h : VecOk v) : CallD Try.prog id_impl_VecBytes [vV v] [] (.tup [(false, [.os 0 1 0 (vb v).length]), (false, [cI 0])]) [.own 1 ((vb v).map byD)] := by
  have := i_VecBytes v
  rw [if_pos h, if_pos h] at this
  exact this
theorem vb_bad {v : List Int} (h : ¬ VecOk v) : CallD Try.prog id_impl_VecBytes [vV v] [] (.tup [(false, [.os 0 1 0 0]), (false, [cI 1])]) [.own 1 []] := by
  have := i_VecBytes v
  rw [if_neg h, if_neg h] at this
  exact this
theorem pt_i {ts : List (List UInt8)} {B : List UInt8} {c : Int} (hB : ptB ts = B) (hc : ptC ts = c) (h1 : ts.length ≤ 5000) (h2 : total ts ≤ 50000) : CallD Try.prog id_impl_PutTexts [vTs ts] [] (.tup [(false, [.os 0 1 0 B.length]), (false, [cI c])]) [.own 1 (B.map byD)] := by
  subst hB; subst hc
  exact i_PutTexts ts (by omega) (by omega)
theorem pt_s {ts : List (List UInt8)} {B : List UInt8} {c : Int} (hB : ptB ts = B) (hc : ptC ts = c) (h1 : ts.length ≤ 5000) (h2 : total ts ≤ 50000) : CallD Try.prog id_spec_PutTexts [vTs ts] [] (.tup [(false, [.os 0 1 0 B.length]), (false, [cI c])]) [.own 1 (B.map byD)] := by
  subst hB; subst hc
  exact s_PutTexts ts (by omega) (by omega)
theorem pr_i {xs : List Int} {B : List UInt8} {c : Int} (hB : prB xs = B) (hc : prC xs = c) (h1 : xs.length ≤ 60) : CallD Try.prog id_impl_PutRuns [vN xs] [] (.tup [(false, [.os 0 1 0 B.length]), (false, [cI c])]) [.own 1 (B.map byD)] := by
  subst hB; subst hc
  exact i_PutRuns xs (by omega)
theorem pr_s {xs : List Int} {B : List UInt8} {c : Int} (hB : prB xs = B) (hc : prC xs = c) (h1 : xs.length ≤ 60) : CallD Try.prog id_spec_PutRuns [vN xs] [] (.tup [(false, [.os 0 1 0 B.length]), (false, [cI c])]) [.own 1 (B.map byD)] := by
  subst hB; subst hc
  exact s_PutRuns xs (by omega)
/-- What is known of texts that are written. -/
theorem pt_facts {ts : List (List UInt8)} {B : List UInt8} (hB : ptB ts = B) (hc : ptC ts = 0) (h1 : ts.length ≤ 5000) (h2 : total ts ≤ 50000) : 0 < B.length ∧ B.length ≤ 200000 ∧
    CallD Try.prog id_impl_GetTexts [vY B] [] (.tup [(false, [.os 0 1 0 ts.length]), (false, [cI 0])]) [.own 1 (ts.map tsD)] ∧
    CallD Try.prog id_impl_GetTexts [vY (B ++ [0])] [] (.tup [(false, [.os 0 1 0 0]), (false, [cI 3])]) [.own 1 []] ∧
    CallD Try.prog id_impl_GetTexts [vY (B.take (B.length - 1))] [] (.tup [(false, [.os 0 1 0 0]), (false, [cI 3])]) [.own 1 []] := by
  subst hB
  obtain ⟨e, e1, e2, e3⟩ := ptC_inv hc
  have hl := putTs_len ts [] (by omega)
  have hp := put_len (n := ts.length) (by omega)
  have hq := put_pos ts.length
  have hlen : (ptB ts).length ≤ 200000 := by rw [e, putT, List.length_append]; omega
  have hpos : 0 < (ptB ts).length := by rw [e, putT, List.length_append]; omega
  exact ⟨hpos, hlen, gt_ok hc, gt_bad (by simp; omega) (by rw [gt_more hc, if_pos (by omega)]), gt_bad (by simp; omega) (gt_less hc)⟩
theorem pr_facts {xs : List Int} {B : List UInt8} (hB : prB xs = B) (hc : prC xs = 0) (h1 : xs.length ≤ 60) : B.length ≤ 2000 ∧
    CallD Try.prog id_impl_GetRuns [vY B] [] (.tup [(false, [.os 0 1 0 xs.length]), (false, [cI 0])]) [.own 1 (xs.map inD)] ∧
    CallD Try.prog id_impl_GetRuns [vY (B ++ [0])] [] (.tup [(false, [.os 0 1 0 0]), (false, [cI 3])]) [.own 1 []] := by
  subst hB
  have hl := prB_len hc h1
  have e : prB xs = putR xs := if_pos hc
  exact ⟨by rw [e]; exact hl, gr_ok hc (by omega), gr_bad (by rw [e]; simp; omega) (by rw [e]; exact gr_more hc (by omega) 0)⟩
theorem pi_any (v : Int) (hv : i64ok v) : ∃ (B : List UInt8) (e : Int), (e = 0 ∧ 0 ≤ v ∧ v ≤ 4611686018427387903 ∧ B = put v.toNat ∧ B.length ≤ 9 ∨ e = 4 ∧ ¬ (0 ≤ v ∧ v ≤ 4611686018427387903) ∧ B.length ≤ 9) ∧
    CallD Try.prog id_impl_PutInt [vI .i64 v] [] (.tup [(false, [.os 0 1 0 B.length]), (false, [cI e])]) [.own 1 (B.map byD)] := by
  by_cases h : 0 ≤ v ∧ v ≤ 4611686018427387903
  · obtain ⟨n, rfl⟩ : ∃ n : Nat, v = n := ⟨v.toNat, by omega⟩
    have hp := put_len (n := n) (by omega)
    exact ⟨put n, 0, .inl ⟨rfl, h.1, h.2, by rw [Int.toNat_natCast], hp⟩, pi_ok n (by omega)⟩
  · exact ⟨[], 4, .inr ⟨rfl, h, by simp⟩, pi_bad v hv h⟩
theorem gi_any {v : Int} {B : List UInt8} (h0 : 0 ≤ v) (h1 : v ≤ 4611686018427387903) (hB : B = put v.toNat) : CallD Try.prog id_impl_GetInt [vY (9 :: B), vI .i64 1] [] (.tup [(false, [cI v]), (false, [cI (1 + B.length : Nat)]), (false, [cI 0])]) [] := by
  obtain ⟨n, rfl⟩ : ∃ n : Nat, v = n := ⟨v.toNat, by omega⟩
  subst hB
  rw [Int.toNat_natCast]
  exact gi_ok n (by omega)
theorem law_Bytes (code : List UInt8) (hcl : code.length ≤ 2 ^ 47) :
    CallD Try.prog id_laws_FnBytes [vY code] [] (vB true) [] := by
  refine F_laws_FnBytes ?_
  try (conv => whnf)
  repeat' (first
    | (refine Pick.mk ?_ ?_ ?_; rotate_left; (focus (exact List.length_map _)); conv => whnf)
    | (refine SeqJ.thru ?_; conv => whnf)
    | (refine br_dec (fun _ => ?_) (fun _ => ?_) <;> first | (exfalso; omega) | contradiction | conv => whnf)
    | (refine br_not ?_; conv => whnf)
    | (refine br_bne (fun _ => ?_) (fun _ => ?_) <;> first | (exfalso; omega) | contradiction | conv => whnf)
    | (refine br_beq (fun _ => ?_) (fun _ => ?_) <;> first | (exfalso; omega) | contradiction | conv => whnf))
  · refine Out.mk true [] [] ?_
    try (conv => whnf)
    exact ⟨rfl, rfl⟩
  · refine Hand.mk [] ?_
    try (conv => whnf)
    refine CallW.n (s_DrawPutInt code (by omega)) ?_
    rintro _ _ ⟨v, rfl, rfl, hv⟩
    try (conv => whnf)
    refine Exists.elim (pi_any v hv) fun B e => Exists.elim e fun e h => ?_
    have hcase := h.1
    refine Hand.mk [] ?_
    try (conv => whnf)
    refine CallW.d (h.2) ?_
    try (conv => whnf)
    refine SeqJ.join (σ := Unit) (fun _ => mk [(0, vY code), (3, vI .i64 v), (4, .one (.os 20496 1 0 B.length)), (5, vI .i64 e)] [(20496, .own 1 (B.map byD))]) (fun _ => True) ?_ ?_
    · rcases hcase with ⟨e0, r1, r2, r3, r4⟩ | ⟨e0, r1, r2⟩
      · try (conv => whnf)
        repeat' (first
          | (refine br_dec (fun _ => ?_) (fun _ => ?_) <;> first | (exfalso; omega) | contradiction | conv => whnf)
          | (refine br_not ?_; conv => whnf)
          | (refine br_bne (fun _ => ?_) (fun _ => ?_) <;> first | (exfalso; omega) | contradiction | conv => whnf)
          | (refine br_beq (fun _ => ?_) (fun _ => ?_) <;> first | (exfalso; omega) | contradiction | conv => whnf))
        all_goals first
          | (rename_i q; exfalso; apply q; rw [e0]; first | rfl | (rw [decide_eq_true (by omega)]; rfl) | (rw [decide_eq_false (by omega)]; rfl) | (simp; omega))
          | skip
            try (conv => whnf)
            first
              | refine LeX.of ?_
              | (refine Pick.mk () (by trivial) (LeX.of ?_))
            try (conv => whnf)
            repeat (refine Need.mk ?_ ?_; (focus (first | omega | (simp; done))); conv => whnf)
            trivial
            try exact ()
      · try (conv => whnf)
        repeat' (first
          | (refine br_dec (fun _ => ?_) (fun _ => ?_) <;> first | (exfalso; omega) | contradiction | conv => whnf)
          | (refine br_not ?_; conv => whnf)
          | (refine br_bne (fun _ => ?_) (fun _ => ?_) <;> first | (exfalso; omega) | contradiction | conv => whnf)
          | (refine br_beq (fun _ => ?_) (fun _ => ?_) <;> first | (exfalso; omega) | contradiction | conv => whnf))
        all_goals first
          | (rename_i q; exfalso; apply q; rw [e0]; first | rfl | (rw [decide_eq_true (by omega)]; rfl) | (rw [decide_eq_false (by omega)]; rfl) | (simp; omega))
          | skip
            try (conv => whnf)
            first
              | refine LeX.of ?_
              | (refine Pick.mk () (by trivial) (LeX.of ?_))
            try (conv => whnf)
            repeat (refine Need.mk ?_ ?_; (focus (first | omega | (simp; done))); conv => whnf)
            trivial
            try exact ()
    · rintro _ _
      conv => whnf
      refine SeqJ.join (σ := Unit) (fun _ => mk [(0, vY code)] []) (fun _ => True) ?_ ?_
      · rcases hcase with ⟨e0, r1, r2, r3, r4⟩ | ⟨e0, r1, r2⟩
        · try (conv => whnf)
          repeat' (first
            | (refine Need.mk ?_ ?_; (focus (omega)); conv => whnf)
            | (refine Pick.mk ?_ ?_ ?_; rotate_left; (focus (first | (simp only [List.length_map, List.length_append, List.length_cons, List.length_nil, List.length_replicate, Nat.zero_add]; rfl) | (simp only [chunks]; rfl) | (refine SlOf.full ?_; first | (simp; done) | (simp; omega)) | ((fail_if_success (show @Eq (Option _) _ _)); rfl))); conv => whnf)
            | (refine br_dec (fun _ => ?_) (fun _ => ?_) <;> first | (exfalso; omega) | contradiction | conv => whnf)
            | (refine br_not ?_; conv => whnf)
            | (refine br_bne (fun _ => ?_) (fun _ => ?_) <;> first | (exfalso; omega) | contradiction | conv => whnf)
            | (refine br_beq (fun _ => ?_) (fun _ => ?_) <;> first | (exfalso; omega) | contradiction | conv => whnf))
          refine Hand.mk [] ?_
          try (conv => whnf)
          repeat (refine Pick.mk ?_ ?_ ?_; rotate_left; (focus ((refine SlOf.full ?_; first | (simp; done) | (simp; omega)))); conv => whnf)
          refine CallW.d (gi_any r1 r2 r3) ?_
          try (conv => whnf)
          try (conv => whnf)
          repeat' (first
            | (refine Pick.mk ?_ ?_ ?_; rotate_left; (focus (first | assumption | (refine wid ?_ ?_ <;> omega))); conv => whnf)
            | (refine br_dec (fun _ => ?_) (fun _ => ?_) <;> first | (exfalso; omega) | contradiction | conv => whnf)
            | (refine br_not ?_; conv => whnf)
            | (refine br_bne (fun _ => ?_) (fun _ => ?_) <;> first | (exfalso; omega) | contradiction | conv => whnf)
            | (refine br_beq (fun _ => ?_) (fun _ => ?_) <;> first | (exfalso; omega) | contradiction | conv => whnf))
          try (conv => whnf)
          first
            | refine LeX.of ?_
            | (refine Pick.mk () (by trivial) (LeX.of ?_))
          try (conv => whnf)
          repeat (refine Need.mk ?_ ?_; (focus ((simp; done))); conv => whnf)
          trivial
          try exact ()
        · try (conv => whnf)
          repeat' (first
            | (refine Pick.mk ?_ ?_ ?_; rotate_left; (focus (assumption)); conv => whnf)
            | (refine br_dec (fun _ => ?_) (fun _ => ?_) <;> first | (exfalso; omega) | contradiction | conv => whnf)
            | (refine br_not ?_; conv => whnf)
            | (refine br_bne (fun _ => ?_) (fun _ => ?_) <;> first | (exfalso; omega) | contradiction | conv => whnf)
            | (refine br_beq (fun _ => ?_) (fun _ => ?_) <;> first | (exfalso; omega) | contradiction | conv => whnf))
          try (conv => whnf)
          first
            | refine LeX.of ?_
            | (refine Pick.mk () (by trivial) (LeX.of ?_))
          try (conv => whnf)
          repeat (refine Need.mk ?_ ?_; (focus ((simp; done))); conv => whnf)
          trivial
          try exact ()
      · rintro _ _
        refine Hand.mk [] ?_
        try (conv => whnf)
        refine CallW.n (s_DrawPutTexts code (by omega)) ?_
        rintro _ _ ⟨ts, rfl, rfl, ht1, ht2⟩
        try (conv => whnf)
        refine Exists.elim (⟨_, rfl⟩ : ∃ B, ptB ts = B) fun B hB => ?_
        refine Exists.elim (⟨_, rfl⟩ : ∃ c, ptC ts = c) fun c hc => ?_
        refine Hand.mk [] ?_
        try (conv => whnf)
        repeat (refine Pick.mk ?_ ?_ ?_; rotate_left; (focus ((refine SlOf.full ?_; first | (simp; done) | (simp; omega)))); conv => whnf)
        refine CallW.d (pt_i hB hc ht1 ht2) ?_
        try (conv => whnf)
        refine Hand.mk [] ?_
        try (conv => whnf)
        repeat (refine Pick.mk ?_ ?_ ?_; rotate_left; (focus ((refine SlOf.full ?_; first | (simp; done) | (simp; omega)))); conv => whnf)
        refine CallW.d (pt_s hB hc ht1 ht2) ?_
        try (conv => whnf)
        refine SeqJ.thru ?_
        try (conv => whnf)
        repeat' (first
          | (refine br_dec (fun _ => ?_) (fun _ => ?_) <;> first | (exfalso; omega) | contradiction | conv => whnf)
          | (refine br_not ?_; conv => whnf)
          | (refine br_bne (fun _ => ?_) (fun _ => ?_) <;> first | (exfalso; omega) | contradiction | conv => whnf)
          | (refine br_beq (fun _ => ?_) (fun _ => ?_) <;> first | (exfalso; omega) | contradiction | conv => whnf))
        refine SeqJ.join (σ := Unit) (fun _ => mk [(0, vY code)] []) (fun _ => True) ?_ ?_
        · by_cases hc0 : c = 0
          · have f := pt_facts hB (hc.trans hc0) ht1 ht2
            have f1 := f.1
            have f2 := f.2.1
            have f3 := f.2.2.1
            have f4 := f.2.2.2.1
            have f5 := f.2.2.2.2
            have hz : B.map byD ++ [List.take 1 [DV.sc (.int .u8 0)]] = (B ++ [0]).map byD := by rw [List.map_append]; rfl
            try (conv => whnf)
            repeat' (first
              | (refine br_dec (fun _ => ?_) (fun _ => ?_) <;> first | (exfalso; omega) | contradiction | conv => whnf)
              | (refine br_not ?_; conv => whnf)
              | (refine br_bne (fun _ => ?_) (fun _ => ?_) <;> first | (exfalso; omega) | contradiction | conv => whnf)
              | (refine br_beq (fun _ => ?_) (fun _ => ?_) <;> first | (exfalso; omega) | contradiction | conv => whnf))
            refine Hand.mk [] ?_
            try (conv => whnf)
            repeat (refine Pick.mk ?_ ?_ ?_; rotate_left; (focus ((refine SlOf.full ?_; first | (simp; done) | (simp; omega)))); conv => whnf)
            refine CallW.d (f3) ?_
            try (conv => whnf)
            repeat (first
              | (refine Need.mk ?_ ?_; (focus (omega)); conv => whnf)
              | (refine Pick.mk ?_ ?_ ?_; rotate_left; (focus (first | assumption | (simp only [List.length_map, List.length_append, List.length_cons, List.length_nil, List.length_replicate, Nat.zero_add]; rfl) | with_reducible exact List.nil_append _ | (simp only [chunks]; rfl) | (refine SlOf.full ?_; first | (simp; done) | (simp; omega)))); conv => whnf))
            refine Hand.mk [] ?_
            try (conv => whnf)
            repeat (refine Pick.mk ?_ ?_ ?_; rotate_left; (focus ((refine SlOf.full ?_; first | (simp; done) | (simp; omega)))); conv => whnf)
            refine CallW.d (f4) ?_
            try (conv => whnf)
            repeat (refine Pick.mk ?_ ?_ ?_; rotate_left; (focus (first | (refine bnd_sub ?_ ?_ <;> omega) | (refine wid ?_ ?_ <;> omega))); conv => whnf)
            refine Hand.mk [] ?_
            try (conv => whnf)
            repeat (refine Pick.mk ?_ ?_ ?_; rotate_left; (focus ((with_reducible refine SlOf.pre _ _ ?_; first | omega | (simp; omega)))); conv => whnf)
            refine CallW.d (f5) ?_
            try (conv => whnf)
            refine Hand.mk [] ?_
            try (conv => whnf)
            repeat (refine Pick.mk ?_ ?_ ?_; rotate_left; (focus ((refine SlOf.full ?_; first | (simp; done) | (simp; omega)))); conv => whnf)
            refine CallW.d (l_sameTexts ts (by omega)) ?_
            try (conv => whnf)
            repeat (refine Pick.mk ?_ ?_ ?_; rotate_left; (focus (assumption)); conv => whnf)
            try (conv => whnf)
            repeat' (first
              | (refine br_dec (fun _ => ?_) (fun _ => ?_) <;> first | (exfalso; omega) | contradiction | conv => whnf)
              | (refine br_not ?_; conv => whnf)
              | (refine br_bne (fun _ => ?_) (fun _ => ?_) <;> first | (exfalso; omega) | contradiction | conv => whnf)
              | (refine br_beq (fun _ => ?_) (fun _ => ?_) <;> first | (exfalso; omega) | contradiction | conv => whnf))
            try (conv => whnf)
            first
              | refine LeX.of ?_
              | (refine Pick.mk () (by trivial) (LeX.of ?_))
            try (conv => whnf)
            repeat (refine Need.mk ?_ ?_; (focus ((simp; done))); conv => whnf)
            trivial
            try exact ()
          · try (conv => whnf)
            repeat' (first
              | (refine Pick.mk ?_ ?_ ?_; rotate_left; (focus (assumption)); conv => whnf)
              | (refine br_dec (fun _ => ?_) (fun _ => ?_) <;> first | (exfalso; omega) | contradiction | conv => whnf)
              | (refine br_not ?_; conv => whnf)
              | (refine br_bne (fun _ => ?_) (fun _ => ?_) <;> first | (exfalso; omega) | contradiction | conv => whnf)
              | (refine br_beq (fun _ => ?_) (fun _ => ?_) <;> first | (exfalso; omega) | contradiction | conv => whnf))
            try (conv => whnf)
            first
              | refine LeX.of ?_
              | (refine Pick.mk () (by trivial) (LeX.of ?_))
            try (conv => whnf)
            repeat (refine Need.mk ?_ ?_; (focus ((simp; done))); conv => whnf)
            trivial
            try exact ()
        · rintro _ _
          refine Hand.mk [] ?_
          try (conv => whnf)
          refine CallW.n (s_DrawPutRuns code (by omega)) ?_
          rintro _ _ ⟨xs, rfl, rfl, hx⟩
          try (conv => whnf)
          refine Exists.elim (⟨_, rfl⟩ : ∃ D, prB xs = D) fun D hD => ?_
          refine Exists.elim (⟨_, rfl⟩ : ∃ d, prC xs = d) fun d hd => ?_
          refine Hand.mk [] ?_
          try (conv => whnf)
          repeat (refine Pick.mk ?_ ?_ ?_; rotate_left; (focus ((refine SlOf.full ?_; first | (simp; done) | (simp; omega)))); conv => whnf)
          refine CallW.d (pr_i hD hd hx) ?_
          try (conv => whnf)
          refine Hand.mk [] ?_
          try (conv => whnf)
          repeat (refine Pick.mk ?_ ?_ ?_; rotate_left; (focus ((refine SlOf.full ?_; first | (simp; done) | (simp; omega)))); conv => whnf)
          refine CallW.d (pr_s hD hd hx) ?_
          try (conv => whnf)
          refine SeqJ.thru ?_
          try (conv => whnf)
          repeat' (first
            | (refine br_dec (fun _ => ?_) (fun _ => ?_) <;> first | (exfalso; omega) | contradiction | conv => whnf)
            | (refine br_not ?_; conv => whnf)
            | (refine br_bne (fun _ => ?_) (fun _ => ?_) <;> first | (exfalso; omega) | contradiction | conv => whnf)
            | (refine br_beq (fun _ => ?_) (fun _ => ?_) <;> first | (exfalso; omega) | contradiction | conv => whnf))
          refine SeqJ.join (σ := Unit) (fun _ => mk [(0, vY code)] []) (fun _ => True) ?_ ?_
          · by_cases hd0 : d = 0
            · have f := pr_facts hD (hd.trans hd0) hx
              have f1 := f.1
              have f2 := f.2.1
              have f3 := f.2.2
              have hz : D.map byD ++ [List.take 1 [DV.sc (.int .u8 0)]] = (D ++ [0]).map byD := by rw [List.map_append]; rfl
              try (conv => whnf)
              repeat' (first
                | (refine br_dec (fun _ => ?_) (fun _ => ?_) <;> first | (exfalso; omega) | contradiction | conv => whnf)
                | (refine br_not ?_; conv => whnf)
                | (refine br_bne (fun _ => ?_) (fun _ => ?_) <;> first | (exfalso; omega) | contradiction | conv => whnf)
                | (refine br_beq (fun _ => ?_) (fun _ => ?_) <;> first | (exfalso; omega) | contradiction | conv => whnf))
              refine Hand.mk [] ?_
              try (conv => whnf)
              repeat (refine Pick.mk ?_ ?_ ?_; rotate_left; (focus ((refine SlOf.full ?_; first | (simp; done) | (simp; omega)))); conv => whnf)
              refine CallW.d (f2) ?_
              try (conv => whnf)
              repeat (first
                | (refine Need.mk ?_ ?_; (focus (omega)); conv => whnf)
                | (refine Pick.mk ?_ ?_ ?_; rotate_left; (focus (first | assumption | (simp only [List.length_map, List.length_append, List.length_cons, List.length_nil, List.length_replicate, Nat.zero_add]; rfl) | with_reducible exact List.nil_append _ | (simp only [chunks]; rfl) | (refine SlOf.full ?_; first | (simp; done) | (simp; omega)))); conv => whnf))
              refine Hand.mk [] ?_
              try (conv => whnf)
              repeat (refine Pick.mk ?_ ?_ ?_; rotate_left; (focus ((refine SlOf.full ?_; first | (simp; done) | (simp; omega)))); conv => whnf)
              refine CallW.d (f3) ?_
              try (conv => whnf)
              refine Hand.mk [] ?_
              try (conv => whnf)
              repeat (refine Pick.mk ?_ ?_ ?_; rotate_left; (focus ((refine SlOf.full ?_; first | (simp; done) | (simp; omega)))); conv => whnf)
              refine CallW.d (l_sameInts xs (by omega)) ?_
              try (conv => whnf)
              repeat (refine Pick.mk ?_ ?_ ?_; rotate_left; (focus (assumption)); conv => whnf)
              try (conv => whnf)
              repeat' (first
                | (refine br_dec (fun _ => ?_) (fun _ => ?_) <;> first | (exfalso; omega) | contradiction | conv => whnf)
                | (refine br_not ?_; conv => whnf)
                | (refine br_bne (fun _ => ?_) (fun _ => ?_) <;> first | (exfalso; omega) | contradiction | conv => whnf)
                | (refine br_beq (fun _ => ?_) (fun _ => ?_) <;> first | (exfalso; omega) | contradiction | conv => whnf))
              try (conv => whnf)
              first
                | refine LeX.of ?_
                | (refine Pick.mk () (by trivial) (LeX.of ?_))
              try (conv => whnf)
              repeat (refine Need.mk ?_ ?_; (focus ((simp; done))); conv => whnf)
              trivial
              try exact ()
            · try (conv => whnf)
              repeat' (first
                | (refine Pick.mk ?_ ?_ ?_; rotate_left; (focus (assumption)); conv => whnf)
                | (refine br_dec (fun _ => ?_) (fun _ => ?_) <;> first | (exfalso; omega) | contradiction | conv => whnf)
                | (refine br_not ?_; conv => whnf)
                | (refine br_bne (fun _ => ?_) (fun _ => ?_) <;> first | (exfalso; omega) | contradiction | conv => whnf)
                | (refine br_beq (fun _ => ?_) (fun _ => ?_) <;> first | (exfalso; omega) | contradiction | conv => whnf))
              try (conv => whnf)
              first
                | refine LeX.of ?_
                | (refine Pick.mk () (by trivial) (LeX.of ?_))
              try (conv => whnf)
              repeat (refine Need.mk ?_ ?_; (focus ((simp; done))); conv => whnf)
              trivial
              try exact ()
          · rintro _ _
            refine Hand.mk [] ?_
            try (conv => whnf)
            refine CallW.n (s_DrawVecBytes code (by omega)) ?_
            rintro _ _ ⟨v, rfl, rfl, hv⟩
            try (conv => whnf)
            by_cases hvo : VecOk v
            · have hvl := hvo.1
              have cs := s_VecOK v
              have ci := i_VecOK v
              rw [decide_eq_true hvo] at cs ci
              have hb := vbN_len hvo (trimN v 16) (trimN_le v 16)
              have ht := trimN_le v 16
              have hb2 : (vb v).length ≤ 200 := by rw [vb]; omega
              have cb := vb_ok hvo
              have cr := i_ReadVec_vb v hvo
              refine Exists.elim (⟨_, rfl⟩ : ∃ E, vb v = E) fun E hE => ?_
              rw [hE] at hb2 cb cr
              refine Hand.mk [] ?_
              try (conv => whnf)
              refine CallW.d (cb) ?_
              try (conv => whnf)
              repeat (refine SeqJ.thru ?_; conv => whnf)
              refine Hand.mk [] ?_
              try (conv => whnf)
              refine CallW.d (cs) ?_
              try (conv => whnf)
              repeat (refine Need.mk ?_ ?_; (focus (((conv => whnf); (repeat (first | (refine Need.mk (by first | rfl | omega | (simp; done)) ?_; conv => whnf) | (refine Pick.mk ?_ ?_ ?_; rotate_left; (focus (first | with_reducible exact xor_u8 _ _ | (with_reducible refine xor_i64 ?_ ?_; all_goals omega) | (with_reducible refine xor_u32 ?_ ?_; all_goals omega) | assumption | with_reducible exact set_byN _ _ _ _ | with_reducible exact set_byI _ _ _ _ | with_reducible exact set_inN _ _ _ _ | with_reducible exact set_inI _ _ _ _ | with_reducible exact set_stN _ _ _ _ | with_reducible exact set_tsN _ _ _ _ | with_reducible exact set_tsI _ _ _ _ | with_reducible exact set_boN _ _ _ _ | with_reducible exact set_boI _ _ _ _ | (with_reducible refine get_mapN _ _ _ ?_; first | omega | (simp; omega)) | (with_reducible refine get_mapI _ _ _ ?_ ?_ <;> first | omega | (simp; omega)) | exact bs_beq _ _ | exact bs_less _ _ | exact bs_leq _ _ | with_reducible exact bs_app _ _ | (refine bs_get _ _ ?_; omega) | (refine bs_int _ _ ?_ ?_ <;> omega) | with_reducible exact sl_map0 _ _ _ | with_reducible exact sl_mapN _ _ _ | with_reducible exact sl_map _ _ _ _ | exact bs_extract0 _ _ | exact bs_extractN _ _ | exact bs_extract _ _ _ | (refine bnd_id ?_; omega) | (refine bnd_sub ?_ ?_ <;> omega) | (refine bnd_add ?_; omega) | (refine bnd_subN ?_ ?_ <;> omega) | (refine bnd_int ?_ ?_ <;> omega) | exact List.length_map _ | exact size_bs _ | (simp only [List.length_map, List.length_append, List.length_cons, List.length_nil, List.length_replicate, Nat.zero_add]; rfl) | with_reducible exact List.nil_append _ | with_reducible exact map_app _ _ _ | exact map_snoc byD _ _ | exact map_snoc inD _ _ | exact map_snoc stD _ _ | exact map_snoc tsD _ _ | (simp only [chunks]; rfl) | (refine wid ?_ ?_ <;> omega) | exact wby _ | with_reducible exact wby32 _ | with_reducible exact wu32 _ | exact wby64 _ | exact shr8 _ | exact shr16 _ | exact shr24 _ | exact shr32 _ | (refine tmodn ?_; omega) | (refine wdiv ?_ ?_ ?_ <;> omega) | exact wbyte _ | exact natlit _ | exact rep_by _ | exact rep_in _ | exact rep_bo _ | exact rep_st _ | (refine pick_nat _ _ _ ?_; omega) | (refine pick_int _ _ _ ?_ ?_ <;> omega) | (refine SlOf.full ?_; first | (simp; done) | (simp; omega)) | (with_reducible refine SlOf.pre _ _ ?_; first | omega | (simp; omega)) | ((fail_if_success (show @Eq (Option _) _ _)); rfl) | ((show @Eq (Option _) _ _); simp only [List.getElem?_cons_zero, List.getElem?_cons_succ]; done) | ((show @Eq (Option _) _ _); simp only [List.getElem?_cons_zero, List.getElem?_cons_succ]; rfl) | with_reducible rfl)); conv => whnf))); exact Done.mk trivial))); conv => whnf)
              try (conv => whnf)
              repeat' (first
                | (refine br_dec (fun _ => ?_) (fun _ => ?_) <;> first | (exfalso; omega) | contradiction | conv => whnf)
                | (refine br_not ?_; conv => whnf)
                | (refine br_bne (fun _ => ?_) (fun _ => ?_) <;> first | (exfalso; omega) | contradiction | conv => whnf)
                | (refine br_beq (fun _ => ?_) (fun _ => ?_) <;> first | (exfalso; omega) | contradiction | conv => whnf))
              refine Hand.mk [] ?_
              try (conv => whnf)
              refine CallW.d (ci) ?_
              try (conv => whnf)
              repeat (refine Need.mk ?_ ?_; (focus (((conv => whnf); (repeat (first | (refine Need.mk (by first | rfl | omega | (simp; done)) ?_; conv => whnf) | (refine Pick.mk ?_ ?_ ?_; rotate_left; (focus (first | with_reducible exact xor_u8 _ _ | (with_reducible refine xor_i64 ?_ ?_; all_goals omega) | (with_reducible refine xor_u32 ?_ ?_; all_goals omega) | assumption | with_reducible exact set_byN _ _ _ _ | with_reducible exact set_byI _ _ _ _ | with_reducible exact set_inN _ _ _ _ | with_reducible exact set_inI _ _ _ _ | with_reducible exact set_stN _ _ _ _ | with_reducible exact set_tsN _ _ _ _ | with_reducible exact set_tsI _ _ _ _ | with_reducible exact set_boN _ _ _ _ | with_reducible exact set_boI _ _ _ _ | (with_reducible refine get_mapN _ _ _ ?_; first | omega | (simp; omega)) | (with_reducible refine get_mapI _ _ _ ?_ ?_ <;> first | omega | (simp; omega)) | exact bs_beq _ _ | exact bs_less _ _ | exact bs_leq _ _ | with_reducible exact bs_app _ _ | (refine bs_get _ _ ?_; omega) | (refine bs_int _ _ ?_ ?_ <;> omega) | with_reducible exact sl_map0 _ _ _ | with_reducible exact sl_mapN _ _ _ | with_reducible exact sl_map _ _ _ _ | exact bs_extract0 _ _ | exact bs_extractN _ _ | exact bs_extract _ _ _ | (refine bnd_id ?_; omega) | (refine bnd_sub ?_ ?_ <;> omega) | (refine bnd_add ?_; omega) | (refine bnd_subN ?_ ?_ <;> omega) | (refine bnd_int ?_ ?_ <;> omega) | exact List.length_map _ | exact size_bs _ | (simp only [List.length_map, List.length_append, List.length_cons, List.length_nil, List.length_replicate, Nat.zero_add]; rfl) | with_reducible exact List.nil_append _ | with_reducible exact map_app _ _ _ | exact map_snoc byD _ _ | exact map_snoc inD _ _ | exact map_snoc stD _ _ | exact map_snoc tsD _ _ | (simp only [chunks]; rfl) | (refine wid ?_ ?_ <;> omega) | exact wby _ | with_reducible exact wby32 _ | with_reducible exact wu32 _ | exact wby64 _ | exact shr8 _ | exact shr16 _ | exact shr24 _ | exact shr32 _ | (refine tmodn ?_; omega) | (refine wdiv ?_ ?_ ?_ <;> omega) | exact wbyte _ | exact natlit _ | exact rep_by _ | exact rep_in _ | exact rep_bo _ | exact rep_st _ | (refine pick_nat _ _ _ ?_; omega) | (refine pick_int _ _ _ ?_ ?_ <;> omega) | (refine SlOf.full ?_; first | (simp; done) | (simp; omega)) | (with_reducible refine SlOf.pre _ _ ?_; first | omega | (simp; omega)) | ((fail_if_success (show @Eq (Option _) _ _)); rfl) | ((show @Eq (Option _) _ _); simp only [List.getElem?_cons_zero, List.getElem?_cons_succ]; done) | ((show @Eq (Option _) _ _); simp only [List.getElem?_cons_zero, List.getElem?_cons_succ]; rfl) | with_reducible rfl)); conv => whnf))); exact Done.mk trivial))); conv => whnf)
              refine Hand.mk [] ?_
              try (conv => whnf)
              refine CallW.d (cs) ?_
              try (conv => whnf)
              repeat (refine SeqJ.thru ?_; conv => whnf)
              try (conv => whnf)
              repeat' (first
                | (refine br_dec (fun _ => ?_) (fun _ => ?_) <;> first | (exfalso; omega) | contradiction | conv => whnf)
                | (refine br_not ?_; conv => whnf)
                | (refine br_bne (fun _ => ?_) (fun _ => ?_) <;> first | (exfalso; omega) | contradiction | conv => whnf)
                | (refine br_beq (fun _ => ?_) (fun _ => ?_) <;> first | (exfalso; omega) | contradiction | conv => whnf))
              refine Hand.mk [] ?_
              try (conv => whnf)
              repeat (refine Pick.mk ?_ ?_ ?_; rotate_left; (focus ((refine SlOf.full ?_; first | (simp; done) | (simp; omega)))); conv => whnf)
              refine CallW.d (cr) ?_
              try (conv => whnf)
              refine Hand.mk [] ?_
              try (conv => whnf)
              repeat (refine Pick.mk ?_ ?_ ?_; rotate_left; (focus ((refine SlOf.full ?_; first | (simp; done) | (simp; omega)))); conv => whnf)
              refine CallW.d (l_sameInts v (by omega)) ?_
              try (conv => whnf)
              refine Out.mk true [] [] ?_
              try (conv => whnf)
              exact ⟨rfl, rfl⟩
            · have cs := s_VecOK v
              have ci := i_VecOK v
              rw [decide_eq_false hvo] at cs ci
              refine Hand.mk [] ?_
              try (conv => whnf)
              refine CallW.d (vb_bad hvo) ?_
              try (conv => whnf)
              repeat (refine SeqJ.thru ?_; conv => whnf)
              refine Hand.mk [] ?_
              try (conv => whnf)
              refine CallW.d (cs) ?_
              try (conv => whnf)
              repeat (refine Need.mk ?_ ?_; (focus (((conv => whnf); (repeat (first | (refine Need.mk (by first | rfl | omega | (simp; done)) ?_; conv => whnf) | (refine Pick.mk ?_ ?_ ?_; rotate_left; (focus (first | with_reducible exact xor_u8 _ _ | (with_reducible refine xor_i64 ?_ ?_; all_goals omega) | (with_reducible refine xor_u32 ?_ ?_; all_goals omega) | assumption | with_reducible exact set_byN _ _ _ _ | with_reducible exact set_byI _ _ _ _ | with_reducible exact set_inN _ _ _ _ | with_reducible exact set_inI _ _ _ _ | with_reducible exact set_stN _ _ _ _ | with_reducible exact set_tsN _ _ _ _ | with_reducible exact set_tsI _ _ _ _ | with_reducible exact set_boN _ _ _ _ | with_reducible exact set_boI _ _ _ _ | (with_reducible refine get_mapN _ _ _ ?_; first | omega | (simp; omega)) | (with_reducible refine get_mapI _ _ _ ?_ ?_ <;> first | omega | (simp; omega)) | exact bs_beq _ _ | exact bs_less _ _ | exact bs_leq _ _ | with_reducible exact bs_app _ _ | (refine bs_get _ _ ?_; omega) | (refine bs_int _ _ ?_ ?_ <;> omega) | with_reducible exact sl_map0 _ _ _ | with_reducible exact sl_mapN _ _ _ | with_reducible exact sl_map _ _ _ _ | exact bs_extract0 _ _ | exact bs_extractN _ _ | exact bs_extract _ _ _ | (refine bnd_id ?_; omega) | (refine bnd_sub ?_ ?_ <;> omega) | (refine bnd_add ?_; omega) | (refine bnd_subN ?_ ?_ <;> omega) | (refine bnd_int ?_ ?_ <;> omega) | exact List.length_map _ | exact size_bs _ | (simp only [List.length_map, List.length_append, List.length_cons, List.length_nil, List.length_replicate, Nat.zero_add]; rfl) | with_reducible exact List.nil_append _ | with_reducible exact map_app _ _ _ | exact map_snoc byD _ _ | exact map_snoc inD _ _ | exact map_snoc stD _ _ | exact map_snoc tsD _ _ | (simp only [chunks]; rfl) | (refine wid ?_ ?_ <;> omega) | exact wby _ | with_reducible exact wby32 _ | with_reducible exact wu32 _ | exact wby64 _ | exact shr8 _ | exact shr16 _ | exact shr24 _ | exact shr32 _ | (refine tmodn ?_; omega) | (refine wdiv ?_ ?_ ?_ <;> omega) | exact wbyte _ | exact natlit _ | exact rep_by _ | exact rep_in _ | exact rep_bo _ | exact rep_st _ | (refine pick_nat _ _ _ ?_; omega) | (refine pick_int _ _ _ ?_ ?_ <;> omega) | (refine SlOf.full ?_; first | (simp; done) | (simp; omega)) | (with_reducible refine SlOf.pre _ _ ?_; first | omega | (simp; omega)) | ((fail_if_success (show @Eq (Option _) _ _)); rfl) | ((show @Eq (Option _) _ _); simp only [List.getElem?_cons_zero, List.getElem?_cons_succ]; done) | ((show @Eq (Option _) _ _); simp only [List.getElem?_cons_zero, List.getElem?_cons_succ]; rfl) | with_reducible rfl)); conv => whnf))); exact Done.mk trivial))); conv => whnf)
              try (conv => whnf)
              repeat' (first
                | (refine br_dec (fun _ => ?_) (fun _ => ?_) <;> first | (exfalso; omega) | contradiction | conv => whnf)
                | (refine br_not ?_; conv => whnf)
                | (refine br_bne (fun _ => ?_) (fun _ => ?_) <;> first | (exfalso; omega) | contradiction | conv => whnf)
                | (refine br_beq (fun _ => ?_) (fun _ => ?_) <;> first | (exfalso; omega) | contradiction | conv => whnf))
              refine Hand.mk [] ?_
              try (conv => whnf)
              refine CallW.d (ci) ?_
              try (conv => whnf)
              repeat (refine Need.mk ?_ ?_; (focus (((conv => whnf); (repeat (first | (refine Need.mk (by first | rfl | omega | (simp; done)) ?_; conv => whnf) | (refine Pick.mk ?_ ?_ ?_; rotate_left; (focus (first | with_reducible exact xor_u8 _ _ | (with_reducible refine xor_i64 ?_ ?_; all_goals omega) | (with_reducible refine xor_u32 ?_ ?_; all_goals omega) | assumption | with_reducible exact set_byN _ _ _ _ | with_reducible exact set_byI _ _ _ _ | with_reducible exact set_inN _ _ _ _ | with_reducible exact set_inI _ _ _ _ | with_reducible exact set_stN _ _ _ _ | with_reducible exact set_tsN _ _ _ _ | with_reducible exact set_tsI _ _ _ _ | with_reducible exact set_boN _ _ _ _ | with_reducible exact set_boI _ _ _ _ | (with_reducible refine get_mapN _ _ _ ?_; first | omega | (simp; omega)) | (with_reducible refine get_mapI _ _ _ ?_ ?_ <;> first | omega | (simp; omega)) | exact bs_beq _ _ | exact bs_less _ _ | exact bs_leq _ _ | with_reducible exact bs_app _ _ | (refine bs_get _ _ ?_; omega) | (refine bs_int _ _ ?_ ?_ <;> omega) | with_reducible exact sl_map0 _ _ _ | with_reducible exact sl_mapN _ _ _ | with_reducible exact sl_map _ _ _ _ | exact bs_extract0 _ _ | exact bs_extractN _ _ | exact bs_extract _ _ _ | (refine bnd_id ?_; omega) | (refine bnd_sub ?_ ?_ <;> omega) | (refine bnd_add ?_; omega) | (refine bnd_subN ?_ ?_ <;> omega) | (refine bnd_int ?_ ?_ <;> omega) | exact List.length_map _ | exact size_bs _ | (simp only [List.length_map, List.length_append, List.length_cons, List.length_nil, List.length_replicate, Nat.zero_add]; rfl) | with_reducible exact List.nil_append _ | with_reducible exact map_app _ _ _ | exact map_snoc byD _ _ | exact map_snoc inD _ _ | exact map_snoc stD _ _ | exact map_snoc tsD _ _ | (simp only [chunks]; rfl) | (refine wid ?_ ?_ <;> omega) | exact wby _ | with_reducible exact wby32 _ | with_reducible exact wu32 _ | exact wby64 _ | exact shr8 _ | exact shr16 _ | exact shr24 _ | exact shr32 _ | (refine tmodn ?_; omega) | (refine wdiv ?_ ?_ ?_ <;> omega) | exact wbyte _ | exact natlit _ | exact rep_by _ | exact rep_in _ | exact rep_bo _ | exact rep_st _ | (refine pick_nat _ _ _ ?_; omega) | (refine pick_int _ _ _ ?_ ?_ <;> omega) | (refine SlOf.full ?_; first | (simp; done) | (simp; omega)) | (with_reducible refine SlOf.pre _ _ ?_; first | omega | (simp; omega)) | ((fail_if_success (show @Eq (Option _) _ _)); rfl) | ((show @Eq (Option _) _ _); simp only [List.getElem?_cons_zero, List.getElem?_cons_succ]; done) | ((show @Eq (Option _) _ _); simp only [List.getElem?_cons_zero, List.getElem?_cons_succ]; rfl) | with_reducible rfl)); conv => whnf))); exact Done.mk trivial))); conv => whnf)
              refine Hand.mk [] ?_
              try (conv => whnf)
              refine CallW.d (cs) ?_
              try (conv => whnf)
              repeat (refine SeqJ.thru ?_; conv => whnf)
              try (conv => whnf)
              repeat' (first
                | (refine br_dec (fun _ => ?_) (fun _ => ?_) <;> first | (exfalso; omega) | contradiction | conv => whnf)
                | (refine br_not ?_; conv => whnf)
                | (refine br_bne (fun _ => ?_) (fun _ => ?_) <;> first | (exfalso; omega) | contradiction | conv => whnf)
                | (refine br_beq (fun _ => ?_) (fun _ => ?_) <;> first | (exfalso; omega) | contradiction | conv => whnf))
              refine Out.mk true [] [] ?_
              try (conv => whnf)
              exact ⟨rfl, rfl⟩
end Go.Proofs.Ytoklfidamhigcaa.D
