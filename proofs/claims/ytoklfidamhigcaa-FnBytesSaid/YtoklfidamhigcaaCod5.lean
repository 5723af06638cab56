/- Lists of texts read, by both. -/
import Derived.Test.YtoklfidamhigcaaCod3
namespace Go.Proofs.Ytoklfidamhigcaa.D
open Go.RowKit
set_option maxRecDepth 100000
set_option maxHeartbeats 4000000
set_option linter.unusedVariables false
set_option linter.unusedSimpArgs false

/-- What a reader gives that asks for a list of texts. -/
def TxtP (l : List UInt8) (a : Nat) : SV → List Row → Prop := fun r Lo =>
  ∃ (b : Nat) (bad : Bool) (ts : List (List UInt8)), Lo = [rdR l b bad, .own 1 (ts.map tsD)] ∧ r = .one (.os 1 1 0 ts.length) ∧ b ≤ l.length ∧ match getT l a with | some (us, c) => bad = false ∧ ts = us ∧ b = c | none => bad = true
theorem tsN_step {l : List UInt8} {n a : Nat} {last : List UInt8} {all k b m c : Nat} (h1 : get l a = some (k, b)) (h2 : get l b = some (m, c)) :
    tsN l (n + 1) a last all = if k ≤ last.length ∧ m ≤ l.length - c ∧ all + (k + m) ≤ MaxB ∧ alike last (last.take k ++ (l.drop c).take m) = k then
          (tsN l n (c + m) (last.take k ++ (l.drop c).take m) (all + (k + m))).map fun r => ((last.take k ++ (l.drop c).take m) :: r.1, r.2)
        else none := by simp only [tsN, h1, h2]
theorem i_texts (l : List UInt8) (a : Nat) (hl : l.length ≤ 2 ^ 30) (ha : a ≤ l.length) :
    CallM Try.prog id_impl_reader_texts [.one (.ptr 0 0)] [rdR l a false] [] false (TxtP l a) := by
  refine F_impl_reader_texts ?_
  try (conv => whnf)
  cases hg : get l a with
  | none =>
    have hT : getT l a = none := by rw [getT, hg]
    refine Hand.mk [] ?_
    try (conv => whnf)
    refine CallW.n (i_numN hg (by omega) ha) ?_
    rintro _ _ ⟨b, rfl, rfl, hb⟩
    try (conv => whnf)
    repeat' (first
      | (refine SeqJ.thru ?_; conv => whnf)
      | (refine br_dec (fun _ => ?_) (fun _ => ?_) <;> first | (exfalso; omega) | contradiction | conv => whnf)
      | (refine br_not ?_; conv => whnf)
      | (refine br_bne (fun _ => ?_) (fun _ => ?_) <;> first | (exfalso; omega) | contradiction | conv => whnf)
      | (refine br_beq (fun _ => ?_) (fun _ => ?_) <;> first | (exfalso; omega) | contradiction | conv => whnf))
    refine Out.mk false [0, 1, 2, 3, 4] [(0, 1)] ?_
    try (conv => whnf)
    exact ⟨b, true, [], rfl, rfl, hb, by rw [hT]⟩
  | some r =>
    obtain ⟨n, b⟩ := r
    obtain ⟨g1, g2, g3, g4, g5⟩ := get_inv hg
    simp only [MaxN] at g4
    refine Hand.mk [] ?_
    try (conv => whnf)
    refine CallW.n (i_num hg (by omega)) ?_
    rintro _ _ ⟨rfl, rfl⟩
    try (conv => whnf)
    repeat' (first
      | (refine SeqJ.thru ?_; conv => whnf)
      | (refine br_dec (fun _ => ?_) (fun _ => ?_) <;> first | (exfalso; omega) | contradiction | conv => whnf)
      | (refine br_not ?_; conv => whnf)
      | (refine br_bne (fun _ => ?_) (fun _ => ?_) <;> first | (exfalso; omega) | contradiction | conv => whnf)
      | (refine br_beq (fun _ => ?_) (fun _ => ?_) <;> first | (exfalso; omega) | contradiction | conv => whnf))
    · have hT : getT l a = none := by simp only [getT, hg]; rw [if_neg (by omega)]
      refine Out.mk false [0, 1, 2, 3, 4] [(0, 1)] ?_
      try (conv => whnf)
      exact ⟨b, true, [], rfl, rfl, g3, by rw [hT]⟩
    · have hT : getT l a = tsN l n b [] 0 := by simp only [getT, hg]; rw [if_pos (by omega)]
      refine LoopE.mk (fun (x : Nat × Nat × List UInt8 × Nat × List (List UInt8)) => mk [(0, .one (.ptr 0 0)), (3, vI .i64 n), (4, .one (.os 5000 1 0 x.2.2.2.2.length)), (5, vS (bs x.2.2.1)), (6, vI .i64 x.2.2.2.1), (7, vI .i64 x.1)] [(0, rdR l x.2.1 false), (5000, .own 1 (x.2.2.2.2.map tsD))])
        (fun x => x.1 ≤ n ∧ x.2.1 ≤ l.length ∧ x.2.2.1.length ≤ x.2.2.2.1 ∧ x.2.2.2.1 ≤ MaxB ∧ x.2.2.2.2.length = x.1 ∧ getT l a = (tsN l (n - x.1) x.2.1 x.2.2.1 x.2.2.2.1).map fun r => (x.2.2.2.2 ++ r.1, r.2)) (fun x => n - x.1) (0, b, [], 0, []) ⟨by simp, g3, by simp, by simp, rfl, by simp [hT]⟩ (LeX.of ?_) ?_
      · try (conv => whnf)
        repeat (refine Need.mk ?_ ?_; (focus (first | omega | (simp only [List.length_map, List.length_append, List.length_cons, List.length_nil, List.length_replicate]; omega) | (simp; done))); conv => whnf)
        trivial
      · rintro ⟨i, b, last, all, out⟩ ⟨h1, h2, h3, h4, h5, h6⟩
        dsimp only at h1 h2 h3 h4 h5 h6 ⊢
        simp only [MaxB] at h4
        rcases Nat.lt_or_ge i n with hlt | hge
        · have hbad : ∀ {c : Nat} {L : List UInt8}, tsN l (n - i) b last all = none → c ≤ l.length → TxtP l a (.one (.os 1 1 0 0)) [rdR l c true, .own 1 []] := fun h hc => ⟨_, true, [], rfl, rfl, hc, by rw [h6, h]; rfl⟩
          have hni : n - i = n - (i + 1) + 1 := by omega
          try (conv => whnf)
          repeat' (first
            | (refine SeqJ.thru ?_; conv => whnf)
            | (refine br_dec (fun _ => ?_) (fun _ => ?_) <;> first | (exfalso; omega) | contradiction | conv => whnf)
            | (refine br_not ?_; conv => whnf)
            | (refine br_bne (fun _ => ?_) (fun _ => ?_) <;> first | (exfalso; omega) | contradiction | conv => whnf)
            | (refine br_beq (fun _ => ?_) (fun _ => ?_) <;> first | (exfalso; omega) | contradiction | conv => whnf))
          cases hk : get l b with
          | none =>
            have hT2 : tsN l (n - i) b last all = none := by rw [hni]; simp only [tsN, hk]
            refine Hand.mk [] ?_
            try (conv => whnf)
            refine CallW.n (i_numN hk (by omega) h2) ?_
            rintro _ _ ⟨c, rfl, rfl, hc⟩
            try (conv => whnf)
            refine Hand.mk [] ?_
            try (conv => whnf)
            refine CallW.n (i_numB (by omega) hc) ?_
            rintro _ _ ⟨c, rfl, rfl, hc⟩
            try (conv => whnf)
            repeat' (first
              | (refine SeqJ.thru ?_; conv => whnf)
              | (refine br_dec (fun _ => ?_) (fun _ => ?_) <;> first | (exfalso; omega) | contradiction | conv => whnf)
              | (refine br_not ?_; conv => whnf)
              | (refine br_bne (fun _ => ?_) (fun _ => ?_) <;> first | (exfalso; omega) | contradiction | conv => whnf)
              | (refine br_beq (fun _ => ?_) (fun _ => ?_) <;> first | (exfalso; omega) | contradiction | conv => whnf))
            refine Out.mk false [0, 1, 2, 3, 4] [(0, 1)] ?_
            try (conv => whnf)
            exact ⟨hbad (L := l) hT2 hc⟩
          | some r =>
            obtain ⟨k, c⟩ := r
            obtain ⟨k1, k2, k3, k4, k5⟩ := get_inv hk
            simp only [MaxN] at k4
            refine Hand.mk [] ?_
            try (conv => whnf)
            refine CallW.n (i_num hk (by omega)) ?_
            rintro _ _ ⟨rfl, rfl⟩
            try (conv => whnf)
            cases hm : get l c with
            | none =>
              have hT2 : tsN l (n - i) b last all = none := by rw [hni]; simp only [tsN, hk, hm]
              refine Hand.mk [] ?_
              try (conv => whnf)
              refine CallW.n (i_numN hm (by omega) k3) ?_
              rintro _ _ ⟨d, rfl, rfl, hc⟩
              try (conv => whnf)
              repeat' (first
                | (refine SeqJ.thru ?_; conv => whnf)
                | (refine br_dec (fun _ => ?_) (fun _ => ?_) <;> first | (exfalso; omega) | contradiction | conv => whnf)
                | (refine br_not ?_; conv => whnf)
                | (refine br_bne (fun _ => ?_) (fun _ => ?_) <;> first | (exfalso; omega) | contradiction | conv => whnf)
                | (refine br_beq (fun _ => ?_) (fun _ => ?_) <;> first | (exfalso; omega) | contradiction | conv => whnf))
              refine Out.mk false [0, 1, 2, 3, 4] [(0, 1)] ?_
              try (conv => whnf)
              exact ⟨hbad (L := l) hT2 hc⟩
            | some r =>
              obtain ⟨m, d⟩ := r
              obtain ⟨m1, m2, m3, m4, m5⟩ := get_inv hm
              simp only [MaxN] at m4
              have hT2 := tsN_step (n := n - (i + 1)) (last := last) (all := all) hk hm
              rw [← hni] at hT2
              refine Hand.mk [] ?_
              try (conv => whnf)
              refine CallW.n (i_num hm (by omega)) ?_
              rintro _ _ ⟨rfl, rfl⟩
              try (conv => whnf)
              repeat' (first
                | (refine Pick.mk ?_ ?_ ?_; rotate_left; (focus (exact size_bs _)); conv => whnf)
                | (refine SeqJ.thru ?_; conv => whnf)
                | (refine br_dec (fun _ => ?_) (fun _ => ?_) <;> first | (exfalso; omega) | contradiction | conv => whnf)
                | (refine br_not ?_; conv => whnf)
                | (refine br_bne (fun _ => ?_) (fun _ => ?_) <;> first | (exfalso; omega) | contradiction | conv => whnf)
                | (refine br_beq (fun _ => ?_) (fun _ => ?_) <;> first | (exfalso; omega) | contradiction | conv => whnf))
              · refine Out.mk false [0, 1, 2, 3, 4] [(0, 1)] ?_
                try (conv => whnf)
                exact ⟨hbad (L := l) (by rw [hT2, if_neg (by omega)]) m3⟩
              · rcases Nat.lt_or_ge (l.length - d) m with hlm | hlm
                · refine Hand.mk [] ?_
                  try (conv => whnf)
                  refine CallW.n (i_textN (.inr hlm) m3 (by omega) (by simp only [MaxN]; omega)) ?_
                  rintro _ _ ⟨rfl, rfl⟩
                  try (conv => whnf)
                  repeat' (first
                    | (refine SeqJ.thru ?_; conv => whnf)
                    | (refine br_dec (fun _ => ?_) (fun _ => ?_) <;> first | (exfalso; omega) | contradiction | conv => whnf)
                    | (refine br_not ?_; conv => whnf)
                    | (refine br_bne (fun _ => ?_) (fun _ => ?_) <;> first | (exfalso; omega) | contradiction | conv => whnf)
                    | (refine br_beq (fun _ => ?_) (fun _ => ?_) <;> first | (exfalso; omega) | contradiction | conv => whnf))
                  refine Out.mk false [0, 1, 2, 3, 4] [(0, 1)] ?_
                  try (conv => whnf)
                  exact ⟨hbad (L := l) (by rw [hT2, if_neg (by omega)]) m3⟩
                · refine Hand.mk [] ?_
                  try (conv => whnf)
                  refine CallW.n (i_text hlm m3 (by omega)) ?_
                  rintro _ _ ⟨rfl, rfl⟩
                  have hlen : (last.take k ++ (l.drop d).take m).length = k + m := by simp; omega
                  have hdm : d + m ≤ l.length := by omega
                  try (conv => whnf)
                  repeat' (first
                    | (refine Need.mk ?_ ?_; (focus ((simp; omega))); conv => whnf)
                    | (refine Pick.mk ?_ ?_ ?_; rotate_left; (focus (first | assumption | with_reducible exact bs_app _ _ | exact bs_extract0 _ _ | (refine bnd_id ?_; omega) | exact size_bs _ | (refine wid ?_ ?_ <;> omega))); conv => whnf)
                    | (refine SeqJ.thru ?_; conv => whnf)
                    | (refine br_dec (fun _ => ?_) (fun _ => ?_) <;> first | (exfalso; omega) | contradiction | conv => whnf)
                    | (refine br_not ?_; conv => whnf)
                    | (refine br_bne (fun _ => ?_) (fun _ => ?_) <;> first | (exfalso; omega) | contradiction | conv => whnf)
                    | (refine br_beq (fun _ => ?_) (fun _ => ?_) <;> first | (exfalso; omega) | contradiction | conv => whnf))
                  · refine Out.mk false [0, 1, 2, 3, 4] [(0, 1)] ?_
                    try (conv => whnf)
                    exact ⟨hbad (L := l) (by rw [hT2, if_neg (by simp only [MaxB]; omega)]) hdm⟩
                  · refine Hand.mk [] ?_
                    try (conv => whnf)
                    refine CallW.d (i_common last (last.take k ++ (l.drop d).take m) (by omega) (by omega)) ?_
                    try (conv => whnf)
                    try (conv => whnf)
                    repeat' (first
                      | (refine Need.mk ?_ ?_; (focus (omega)); conv => whnf)
                      | (refine Pick.mk ?_ ?_ ?_; rotate_left; (focus (first | (simp only [List.length_map, List.length_append, List.length_cons, List.length_nil, List.length_replicate, Nat.zero_add]; rfl) | exact map_snoc tsD _ _ | (simp only [chunks]; rfl) | (refine wid ?_ ?_ <;> omega) | (refine SlOf.full ?_; first | (simp; done) | (simp; omega)))); conv => whnf)
                      | (refine br_dec (fun _ => ?_) (fun _ => ?_) <;> first | (exfalso; omega) | contradiction | conv => whnf)
                      | (refine br_not ?_; conv => whnf)
                      | (refine br_bne (fun _ => ?_) (fun _ => ?_) <;> first | (exfalso; omega) | contradiction | conv => whnf)
                      | (refine br_beq (fun _ => ?_) (fun _ => ?_) <;> first | (exfalso; omega) | contradiction | conv => whnf))
                    rotate_left
                    · refine Out.mk false [0, 1, 2, 3, 4] [(0, 1)] ?_
                      try (conv => whnf)
                      exact ⟨hbad (L := l) (by rw [hT2, if_neg (by omega)]) hdm⟩
                    · have hak : alike last (last.take k ++ (l.drop d).take m) = k := by omega
                      refine Pick.mk (i + 1, d + m, (last.take k ++ (l.drop d).take m), all + (k + m), out ++ [(last.take k ++ (l.drop d).take m)]) ⟨⟨hlt, hdm, by dsimp only; omega, by simp only [MaxB]; omega, by simp [h5], ?_⟩, by dsimp only; omega⟩ (LeX.of ?_)
                      · dsimp only
                        rw [h6, hT2, if_pos ⟨by omega, hlm, by simp only [MaxB]; omega, hak⟩, Option.map_map]
                        congr 1
                        funext r
                        simp
                      · try (conv => whnf)
                        repeat (refine Need.mk ?_ ?_; (focus (first | omega | (simp only [List.length_map, List.length_append, List.length_cons, List.length_nil, List.length_replicate]; omega) | (simp; done))); conv => whnf)
                        trivial
        · rw [show n - i = 0 by omega] at h6
          simp only [tsN, Option.map_some, List.append_nil] at h6
          try (conv => whnf)
          repeat' (first
            | (refine SeqJ.thru ?_; conv => whnf)
            | (refine br_dec (fun _ => ?_) (fun _ => ?_) <;> first | (exfalso; omega) | contradiction | conv => whnf)
            | (refine br_not ?_; conv => whnf)
            | (refine br_bne (fun _ => ?_) (fun _ => ?_) <;> first | (exfalso; omega) | contradiction | conv => whnf)
            | (refine br_beq (fun _ => ?_) (fun _ => ?_) <;> first | (exfalso; omega) | contradiction | conv => whnf))
          refine Out.mk false [0, 1, 2, 3, 4] [] ?_
          try (conv => whnf)
          exact ⟨b, false, out, rfl, rfl, h2, by rw [h6]; exact ⟨rfl, rfl, rfl⟩⟩
theorem s_texts (l : List UInt8) (a : Nat) (hl : l.length ≤ 2 ^ 30) (ha : a ≤ l.length) :
    CallM Try.prog id_spec_l01Reader_texts [.one (.ptr 0 0)] [rdR l a false] [] false (TxtP l a) := by
  refine F_spec_l01Reader_texts ?_
  try (conv => whnf)
  repeat (refine Pick.mk ?_ ?_ ?_; rotate_left; (focus ((simp only [chunks]; rfl))); conv => whnf)
  by_cases hg : ∃ n b, get l a = some (n, b) ∧ n ≤ 4096
  · obtain ⟨n, b, hg, hn⟩ := hg
    obtain ⟨g1, g2, g3, g4, g5⟩ := get_inv hg
    have hT : getT l a = tsN l n b [] 0 := by simp only [getT, hg]; rw [if_pos (by omega)]
    refine Hand.mk [] ?_
    try (conv => whnf)
    refine CallW.n (s_count hg hn (by omega)) ?_
    rintro _ _ ⟨rfl, rfl⟩
    try (conv => whnf)
    refine LoopE.mk (fun (x : Nat × Nat × List UInt8 × Nat × List (List UInt8) × Bool) => mk [(0, .one (.ptr 0 0)), (3, .one (.os 8192 1 0 x.2.2.2.2.1.length)), (4, vS (bs x.2.2.1)), (5, vI .i64 x.2.2.2.1), (6, vI .i64 x.1)] [(0, rdR l x.2.1 x.2.2.2.2.2), (8192, .own 1 (x.2.2.2.2.1.map tsD))])
      (fun x => x.1 ≤ n ∧ x.2.1 ≤ l.length ∧ x.2.2.1.length ≤ x.2.2.2.1 ∧ x.2.2.2.1 ≤ 2 ^ 30 + 2 ^ 32 * (n - x.1) ∧ x.2.2.2.2.1.length = n - x.1 ∧
        if x.2.2.2.2.2 then getT l a = none else x.2.2.2.1 ≤ MaxB ∧ getT l a = (tsN l x.1 x.2.1 x.2.2.1 x.2.2.2.1).map fun r => (x.2.2.2.2.1 ++ r.1, r.2)) (fun x => x.1) (n, b, [], 0, [], false) ⟨by simp, g3, by simp, by simp, by simp, by simp [hT]⟩ (LeX.of ?_) ?_
    · try (conv => whnf)
      repeat (refine Need.mk ?_ ?_; (focus (first | omega | (simp only [List.length_map, List.length_append, List.length_cons, List.length_nil, List.length_replicate]; omega) | (simp; done))); conv => whnf)
      trivial
    · rintro ⟨i, b, last, all, out, bad⟩ ⟨h1, h2, h3, h4, h5, h6⟩
      dsimp only at h1 h2 h3 h4 h5 h6 ⊢
      cases bad with
      | true =>
        rw [if_pos rfl] at h6
        try (conv => whnf)
        repeat' (first
          | (refine SeqJ.thru ?_; conv => whnf)
          | (refine br_dec (fun _ => ?_) (fun _ => ?_) <;> first | (exfalso; omega) | contradiction | conv => whnf)
          | (refine br_not ?_; conv => whnf)
          | (refine br_bne (fun _ => ?_) (fun _ => ?_) <;> first | (exfalso; omega) | contradiction | conv => whnf)
          | (refine br_beq (fun _ => ?_) (fun _ => ?_) <;> first | (exfalso; omega) | contradiction | conv => whnf))
        all_goals
          refine Out.mk false [0, 1, 2, 3, 4] [] ?_
          try (conv => whnf)
          exact ⟨b, true, out, rfl, rfl, h2, by rw [h6]⟩
      | false =>
        rw [if_neg (by simp)] at h6
        obtain ⟨h4', h6⟩ := h6
        simp only [MaxB] at h4'
        rcases Nat.eq_zero_or_pos i with h0 | h0
        · subst h0
          simp only [tsN, Option.map_some, List.append_nil] at h6
          try (conv => whnf)
          repeat' (first
            | (refine SeqJ.thru ?_; conv => whnf)
            | (refine br_dec (fun _ => ?_) (fun _ => ?_) <;> first | (exfalso; omega) | contradiction | conv => whnf)
            | (refine br_not ?_; conv => whnf)
            | (refine br_bne (fun _ => ?_) (fun _ => ?_) <;> first | (exfalso; omega) | contradiction | conv => whnf)
            | (refine br_beq (fun _ => ?_) (fun _ => ?_) <;> first | (exfalso; omega) | contradiction | conv => whnf))
          refine Out.mk false [0, 1, 2, 3, 4] [] ?_
          try (conv => whnf)
          exact ⟨b, false, out, rfl, rfl, h2, by rw [h6]; exact ⟨rfl, rfl, rfl⟩⟩
        · obtain ⟨j, rfl⟩ : ∃ j, i = j + 1 := ⟨i - 1, by omega⟩
          have hset : ∀ {c : Nat} {o : List (List UInt8)}, tsN l (j + 1) b last all = none → c ≤ l.length → TxtP l a (.one (.os 1 1 0 o.length)) [rdR l c true, .own 1 (o.map tsD)] := fun h hc => ⟨_, true, _, rfl, rfl, hc, by rw [h6, h]; rfl⟩
          try (conv => whnf)
          repeat' (first
            | (refine SeqJ.thru ?_; conv => whnf)
            | (refine br_dec (fun _ => ?_) (fun _ => ?_) <;> first | (exfalso; omega) | contradiction | conv => whnf)
            | (refine br_not ?_; conv => whnf)
            | (refine br_bne (fun _ => ?_) (fun _ => ?_) <;> first | (exfalso; omega) | contradiction | conv => whnf)
            | (refine br_beq (fun _ => ?_) (fun _ => ?_) <;> first | (exfalso; omega) | contradiction | conv => whnf))
          cases hk : get l b with
          | none =>
            have hT2 : tsN l (j + 1) b last all = none := by simp only [tsN, hk]
            refine Hand.mk [] ?_
            try (conv => whnf)
            refine CallW.n (s_numN hk (by omega) h2) ?_
            rintro _ _ ⟨c, rfl, rfl, hc⟩
            try (conv => whnf)
            repeat' (first
              | (refine Pick.mk ?_ ?_ ?_; rotate_left; (focus (first | exact bs_extract0 _ _ | (refine bnd_int ?_ ?_ <;> omega) | exact size_bs _)); conv => whnf)
              | (refine SeqJ.thru ?_; conv => whnf)
              | (refine br_dec (fun _ => ?_) (fun _ => ?_) <;> first | (exfalso; omega) | contradiction | conv => whnf)
              | (refine br_not ?_; conv => whnf)
              | (refine br_bne (fun _ => ?_) (fun _ => ?_) <;> first | (exfalso; omega) | contradiction | conv => whnf)
              | (refine br_beq (fun _ => ?_) (fun _ => ?_) <;> first | (exfalso; omega) | contradiction | conv => whnf))
            refine Hand.mk [] ?_
            try (conv => whnf)
            refine CallW.n (s_numB (by omega) hc) ?_
            rintro _ _ ⟨c, rfl, rfl, hc⟩
            try (conv => whnf)
            repeat (refine Need.mk ?_ ?_; (focus (((conv => whnf); (repeat (first | (refine Need.mk (by first | rfl | omega | (simp; done)) ?_; conv => whnf) | (refine Pick.mk ?_ ?_ ?_; rotate_left; (focus (first | with_reducible exact xor_u8 _ _ | (with_reducible refine xor_i64 ?_ ?_; all_goals omega) | (with_reducible refine xor_u32 ?_ ?_; all_goals omega) | assumption | with_reducible exact set_byN _ _ _ _ | with_reducible exact set_byI _ _ _ _ | with_reducible exact set_inN _ _ _ _ | with_reducible exact set_inI _ _ _ _ | with_reducible exact set_stN _ _ _ _ | with_reducible exact set_tsN _ _ _ _ | with_reducible exact set_tsI _ _ _ _ | with_reducible exact set_boN _ _ _ _ | with_reducible exact set_boI _ _ _ _ | (with_reducible refine get_mapN _ _ _ ?_; first | omega | (simp; omega)) | (with_reducible refine get_mapI _ _ _ ?_ ?_ <;> first | omega | (simp; omega)) | exact bs_beq _ _ | exact bs_less _ _ | exact bs_leq _ _ | with_reducible exact bs_app _ _ | (refine bs_get _ _ ?_; omega) | (refine bs_int _ _ ?_ ?_ <;> omega) | with_reducible exact sl_map0 _ _ _ | with_reducible exact sl_mapN _ _ _ | with_reducible exact sl_map _ _ _ _ | exact bs_extract0 _ _ | exact bs_extractN _ _ | exact bs_extract _ _ _ | (refine bnd_id ?_; omega) | (refine bnd_sub ?_ ?_ <;> omega) | (refine bnd_add ?_; omega) | (refine bnd_subN ?_ ?_ <;> omega) | (refine bnd_int ?_ ?_ <;> omega) | exact List.length_map _ | exact size_bs _ | (simp only [List.length_map, List.length_append, List.length_cons, List.length_nil, List.length_replicate, Nat.zero_add]; rfl) | with_reducible exact List.nil_append _ | with_reducible exact map_app _ _ _ | exact map_snoc byD _ _ | exact map_snoc inD _ _ | exact map_snoc stD _ _ | exact map_snoc tsD _ _ | (simp only [chunks]; rfl) | (refine wid ?_ ?_ <;> omega) | exact wby _ | with_reducible exact wby32 _ | with_reducible exact wu32 _ | exact wby64 _ | exact shr8 _ | exact shr16 _ | exact shr24 _ | exact shr32 _ | (refine tmodn ?_; omega) | (refine wdiv ?_ ?_ ?_ <;> omega) | exact wbyte _ | exact natlit _ | exact rep_by _ | exact rep_in _ | exact rep_bo _ | exact rep_st _ | (refine pick_nat _ _ _ ?_; omega) | (refine pick_int _ _ _ ?_ ?_ <;> omega) | (refine SlOf.full ?_; first | (simp; done) | (simp; omega)) | (with_reducible refine SlOf.pre _ _ ?_; first | omega | (simp; omega)) | ((fail_if_success (show @Eq (Option _) _ _)); rfl) | ((show @Eq (Option _) _ _); simp only [List.getElem?_cons_zero, List.getElem?_cons_succ]; done) | ((show @Eq (Option _) _ _); simp only [List.getElem?_cons_zero, List.getElem?_cons_succ]; rfl) | with_reducible rfl)); conv => whnf))); exact Done.mk trivial))); conv => whnf)
            refine Hand.mk [] ?_
            try (conv => whnf)
            refine CallW.n (s_takeN (n := 0) (.inl rfl) hc (by omega) (by simp)) ?_
            rintro _ _ ⟨rfl, rfl⟩
            have hlt : ((last.take 0) : List UInt8).length ≤ 2 ^ 31 := (by simp)
            have hq : bs (last.take 0) ++ bs [] = bs (last.take 0) := by rw [bs_app, List.append_nil]
            try (conv => whnf)
            repeat (first
              | (refine Need.mk ?_ ?_; (focus (first | (simp; done) | ((conv => whnf); (repeat (first | (refine Need.mk (by first | rfl | omega | (simp; done)) ?_; conv => whnf) | (refine Pick.mk ?_ ?_ ?_; rotate_left; (focus (first | with_reducible exact xor_u8 _ _ | (with_reducible refine xor_i64 ?_ ?_; all_goals omega) | (with_reducible refine xor_u32 ?_ ?_; all_goals omega) | assumption | with_reducible exact set_byN _ _ _ _ | with_reducible exact set_byI _ _ _ _ | with_reducible exact set_inN _ _ _ _ | with_reducible exact set_inI _ _ _ _ | with_reducible exact set_stN _ _ _ _ | with_reducible exact set_tsN _ _ _ _ | with_reducible exact set_tsI _ _ _ _ | with_reducible exact set_boN _ _ _ _ | with_reducible exact set_boI _ _ _ _ | (with_reducible refine get_mapN _ _ _ ?_; first | omega | (simp; omega)) | (with_reducible refine get_mapI _ _ _ ?_ ?_ <;> first | omega | (simp; omega)) | exact bs_beq _ _ | exact bs_less _ _ | exact bs_leq _ _ | with_reducible exact bs_app _ _ | (refine bs_get _ _ ?_; omega) | (refine bs_int _ _ ?_ ?_ <;> omega) | with_reducible exact sl_map0 _ _ _ | with_reducible exact sl_mapN _ _ _ | with_reducible exact sl_map _ _ _ _ | exact bs_extract0 _ _ | exact bs_extractN _ _ | exact bs_extract _ _ _ | (refine bnd_id ?_; omega) | (refine bnd_sub ?_ ?_ <;> omega) | (refine bnd_add ?_; omega) | (refine bnd_subN ?_ ?_ <;> omega) | (refine bnd_int ?_ ?_ <;> omega) | exact List.length_map _ | exact size_bs _ | (simp only [List.length_map, List.length_append, List.length_cons, List.length_nil, List.length_replicate, Nat.zero_add]; rfl) | with_reducible exact List.nil_append _ | with_reducible exact map_app _ _ _ | exact map_snoc byD _ _ | exact map_snoc inD _ _ | exact map_snoc stD _ _ | exact map_snoc tsD _ _ | (simp only [chunks]; rfl) | (refine wid ?_ ?_ <;> omega) | exact wby _ | with_reducible exact wby32 _ | with_reducible exact wu32 _ | exact wby64 _ | exact shr8 _ | exact shr16 _ | exact shr24 _ | exact shr32 _ | (refine tmodn ?_; omega) | (refine wdiv ?_ ?_ ?_ <;> omega) | exact wbyte _ | exact natlit _ | exact rep_by _ | exact rep_in _ | exact rep_bo _ | exact rep_st _ | (refine pick_nat _ _ _ ?_; omega) | (refine pick_int _ _ _ ?_ ?_ <;> omega) | (refine SlOf.full ?_; first | (simp; done) | (simp; omega)) | (with_reducible refine SlOf.pre _ _ ?_; first | omega | (simp; omega)) | ((fail_if_success (show @Eq (Option _) _ _)); rfl) | ((show @Eq (Option _) _ _); simp only [List.getElem?_cons_zero, List.getElem?_cons_succ]; done) | ((show @Eq (Option _) _ _); simp only [List.getElem?_cons_zero, List.getElem?_cons_succ]; rfl) | with_reducible rfl)); conv => whnf))); exact Done.mk trivial))); conv => whnf)
              | (refine Pick.mk ?_ ?_ ?_; rotate_left; (focus (assumption)); conv => whnf)
              | (refine SeqJ.thru ?_; conv => whnf))
            refine Hand.mk [] ?_
            try (conv => whnf)
            refine CallW.d (s_l01Alike last (last.take 0) (by omega) (by omega)) ?_
            try (conv => whnf)
            try (conv => whnf)
            repeat' (first
              | (refine Need.mk ?_ ?_; (focus (omega)); conv => whnf)
              | (refine Pick.mk ?_ ?_ ?_; rotate_left; (focus (first | exact size_bs _ | (simp only [List.length_map, List.length_append, List.length_cons, List.length_nil, List.length_replicate, Nat.zero_add]; rfl) | exact map_snoc tsD _ _ | (simp only [chunks]; rfl) | (refine wid ?_ ?_ <;> omega) | (refine SlOf.full ?_; first | (simp; done) | (simp; omega)))); conv => whnf)
              | (refine SeqJ.thru ?_; conv => whnf)
              | (refine br_dec (fun _ => ?_) (fun _ => ?_) <;> first | (exfalso; omega) | contradiction | conv => whnf)
              | (refine br_not ?_; conv => whnf)
              | (refine br_bne (fun _ => ?_) (fun _ => ?_) <;> first | (exfalso; omega) | contradiction | conv => whnf)
              | (refine br_beq (fun _ => ?_) (fun _ => ?_) <;> first | (exfalso; omega) | contradiction | conv => whnf))
            all_goals
              refine Pick.mk (j, c, (last.take 0), all + ((last.take 0) : List UInt8).length, out ++ [(last.take 0)], true) ⟨⟨by dsimp only; omega, hc, by dsimp only; omega, by dsimp only; omega, by simp; omega, by rw [if_pos rfl, h6, hT2]; rfl⟩, by dsimp only; omega⟩ (LeX.of ?_)
              try (conv => whnf)
              repeat (refine Need.mk ?_ ?_; (focus (first | omega | (simp only [List.length_map, List.length_append, List.length_cons, List.length_nil, List.length_replicate]; omega) | (simp; done))); conv => whnf)
              trivial
          | some r =>
            obtain ⟨k, c⟩ := r
            obtain ⟨k1, k2, k3, k4, k5⟩ := get_inv hk
            simp only [MaxN] at k4
            refine Hand.mk [] ?_
            try (conv => whnf)
            refine CallW.n (s_num hk (by omega)) ?_
            rintro _ _ ⟨rfl, rfl⟩
            try (conv => whnf)
            repeat' (first
              | (refine Pick.mk ?_ ?_ ?_; rotate_left; (focus (first | exact bs_extract0 _ _ | (refine bnd_id ?_; omega) | exact size_bs _)); conv => whnf)
              | (refine SeqJ.thru ?_; conv => whnf)
              | (refine br_dec (fun _ => ?_) (fun _ => ?_) <;> first | (exfalso; omega) | contradiction | conv => whnf)
              | (refine br_not ?_; conv => whnf)
              | (refine br_bne (fun _ => ?_) (fun _ => ?_) <;> first | (exfalso; omega) | contradiction | conv => whnf)
              | (refine br_beq (fun _ => ?_) (fun _ => ?_) <;> first | (exfalso; omega) | contradiction | conv => whnf))
            · have hT2 : tsN l (j + 1) b last all = none := by
                simp only [tsN, hk]
                split
                · rfl
                · rw [if_neg (by omega)]
              refine Out.mk false [0, 1, 2, 3, 4] [] ?_
              try (conv => whnf)
              exact ⟨hset hT2 k3⟩
            · cases hm : get l c with
              | none =>
                have hT2 : tsN l (j + 1) b last all = none := by simp only [tsN, hk, hm]
                refine Hand.mk [] ?_
                try (conv => whnf)
                refine CallW.n (s_numN hm (by omega) k3) ?_
                rintro _ _ ⟨d, rfl, rfl, hd⟩
                try (conv => whnf)
                repeat (refine Need.mk ?_ ?_; (focus (((conv => whnf); (repeat (first | (refine Need.mk (by first | rfl | omega | (simp; done)) ?_; conv => whnf) | (refine Pick.mk ?_ ?_ ?_; rotate_left; (focus (first | with_reducible exact xor_u8 _ _ | (with_reducible refine xor_i64 ?_ ?_; all_goals omega) | (with_reducible refine xor_u32 ?_ ?_; all_goals omega) | assumption | with_reducible exact set_byN _ _ _ _ | with_reducible exact set_byI _ _ _ _ | with_reducible exact set_inN _ _ _ _ | with_reducible exact set_inI _ _ _ _ | with_reducible exact set_stN _ _ _ _ | with_reducible exact set_tsN _ _ _ _ | with_reducible exact set_tsI _ _ _ _ | with_reducible exact set_boN _ _ _ _ | with_reducible exact set_boI _ _ _ _ | (with_reducible refine get_mapN _ _ _ ?_; first | omega | (simp; omega)) | (with_reducible refine get_mapI _ _ _ ?_ ?_ <;> first | omega | (simp; omega)) | exact bs_beq _ _ | exact bs_less _ _ | exact bs_leq _ _ | with_reducible exact bs_app _ _ | (refine bs_get _ _ ?_; omega) | (refine bs_int _ _ ?_ ?_ <;> omega) | with_reducible exact sl_map0 _ _ _ | with_reducible exact sl_mapN _ _ _ | with_reducible exact sl_map _ _ _ _ | exact bs_extract0 _ _ | exact bs_extractN _ _ | exact bs_extract _ _ _ | (refine bnd_id ?_; omega) | (refine bnd_sub ?_ ?_ <;> omega) | (refine bnd_add ?_; omega) | (refine bnd_subN ?_ ?_ <;> omega) | (refine bnd_int ?_ ?_ <;> omega) | exact List.length_map _ | exact size_bs _ | (simp only [List.length_map, List.length_append, List.length_cons, List.length_nil, List.length_replicate, Nat.zero_add]; rfl) | with_reducible exact List.nil_append _ | with_reducible exact map_app _ _ _ | exact map_snoc byD _ _ | exact map_snoc inD _ _ | exact map_snoc stD _ _ | exact map_snoc tsD _ _ | (simp only [chunks]; rfl) | (refine wid ?_ ?_ <;> omega) | exact wby _ | with_reducible exact wby32 _ | with_reducible exact wu32 _ | exact wby64 _ | exact shr8 _ | exact shr16 _ | exact shr24 _ | exact shr32 _ | (refine tmodn ?_; omega) | (refine wdiv ?_ ?_ ?_ <;> omega) | exact wbyte _ | exact natlit _ | exact rep_by _ | exact rep_in _ | exact rep_bo _ | exact rep_st _ | (refine pick_nat _ _ _ ?_; omega) | (refine pick_int _ _ _ ?_ ?_ <;> omega) | (refine SlOf.full ?_; first | (simp; done) | (simp; omega)) | (with_reducible refine SlOf.pre _ _ ?_; first | omega | (simp; omega)) | ((fail_if_success (show @Eq (Option _) _ _)); rfl) | ((show @Eq (Option _) _ _); simp only [List.getElem?_cons_zero, List.getElem?_cons_succ]; done) | ((show @Eq (Option _) _ _); simp only [List.getElem?_cons_zero, List.getElem?_cons_succ]; rfl) | with_reducible rfl)); conv => whnf))); exact Done.mk trivial))); conv => whnf)
                refine Hand.mk [] ?_
                try (conv => whnf)
                refine CallW.n (s_takeN (n := 0) (.inl rfl) hd (by omega) (by simp)) ?_
                rintro _ _ ⟨rfl, rfl⟩
                have hlt : ((last.take k) : List UInt8).length ≤ 2 ^ 31 := (by simp; omega)
                have hq : bs (last.take k) ++ bs [] = bs (last.take k) := by rw [bs_app, List.append_nil]
                try (conv => whnf)
                repeat (first
                  | (refine Need.mk ?_ ?_; (focus (first | (simp; omega) | ((conv => whnf); (repeat (first | (refine Need.mk (by first | rfl | omega | (simp; done)) ?_; conv => whnf) | (refine Pick.mk ?_ ?_ ?_; rotate_left; (focus (first | with_reducible exact xor_u8 _ _ | (with_reducible refine xor_i64 ?_ ?_; all_goals omega) | (with_reducible refine xor_u32 ?_ ?_; all_goals omega) | assumption | with_reducible exact set_byN _ _ _ _ | with_reducible exact set_byI _ _ _ _ | with_reducible exact set_inN _ _ _ _ | with_reducible exact set_inI _ _ _ _ | with_reducible exact set_stN _ _ _ _ | with_reducible exact set_tsN _ _ _ _ | with_reducible exact set_tsI _ _ _ _ | with_reducible exact set_boN _ _ _ _ | with_reducible exact set_boI _ _ _ _ | (with_reducible refine get_mapN _ _ _ ?_; first | omega | (simp; omega)) | (with_reducible refine get_mapI _ _ _ ?_ ?_ <;> first | omega | (simp; omega)) | exact bs_beq _ _ | exact bs_less _ _ | exact bs_leq _ _ | with_reducible exact bs_app _ _ | (refine bs_get _ _ ?_; omega) | (refine bs_int _ _ ?_ ?_ <;> omega) | with_reducible exact sl_map0 _ _ _ | with_reducible exact sl_mapN _ _ _ | with_reducible exact sl_map _ _ _ _ | exact bs_extract0 _ _ | exact bs_extractN _ _ | exact bs_extract _ _ _ | (refine bnd_id ?_; omega) | (refine bnd_sub ?_ ?_ <;> omega) | (refine bnd_add ?_; omega) | (refine bnd_subN ?_ ?_ <;> omega) | (refine bnd_int ?_ ?_ <;> omega) | exact List.length_map _ | exact size_bs _ | (simp only [List.length_map, List.length_append, List.length_cons, List.length_nil, List.length_replicate, Nat.zero_add]; rfl) | with_reducible exact List.nil_append _ | with_reducible exact map_app _ _ _ | exact map_snoc byD _ _ | exact map_snoc inD _ _ | exact map_snoc stD _ _ | exact map_snoc tsD _ _ | (simp only [chunks]; rfl) | (refine wid ?_ ?_ <;> omega) | exact wby _ | with_reducible exact wby32 _ | with_reducible exact wu32 _ | exact wby64 _ | exact shr8 _ | exact shr16 _ | exact shr24 _ | exact shr32 _ | (refine tmodn ?_; omega) | (refine wdiv ?_ ?_ ?_ <;> omega) | exact wbyte _ | exact natlit _ | exact rep_by _ | exact rep_in _ | exact rep_bo _ | exact rep_st _ | (refine pick_nat _ _ _ ?_; omega) | (refine pick_int _ _ _ ?_ ?_ <;> omega) | (refine SlOf.full ?_; first | (simp; done) | (simp; omega)) | (with_reducible refine SlOf.pre _ _ ?_; first | omega | (simp; omega)) | ((fail_if_success (show @Eq (Option _) _ _)); rfl) | ((show @Eq (Option _) _ _); simp only [List.getElem?_cons_zero, List.getElem?_cons_succ]; done) | ((show @Eq (Option _) _ _); simp only [List.getElem?_cons_zero, List.getElem?_cons_succ]; rfl) | with_reducible rfl)); conv => whnf))); exact Done.mk trivial))); conv => whnf)
                  | (refine Pick.mk ?_ ?_ ?_; rotate_left; (focus (assumption)); conv => whnf)
                  | (refine SeqJ.thru ?_; conv => whnf))
                refine Hand.mk [] ?_
                try (conv => whnf)
                refine CallW.d (s_l01Alike last (last.take k) (by omega) (by omega)) ?_
                try (conv => whnf)
                try (conv => whnf)
                repeat' (first
                  | (refine Need.mk ?_ ?_; (focus (omega)); conv => whnf)
                  | (refine Pick.mk ?_ ?_ ?_; rotate_left; (focus (first | exact size_bs _ | (simp only [List.length_map, List.length_append, List.length_cons, List.length_nil, List.length_replicate, Nat.zero_add]; rfl) | exact map_snoc tsD _ _ | (simp only [chunks]; rfl) | (refine wid ?_ ?_ <;> omega) | (refine SlOf.full ?_; first | (simp; done) | (simp; omega)))); conv => whnf)
                  | (refine SeqJ.thru ?_; conv => whnf)
                  | (refine br_dec (fun _ => ?_) (fun _ => ?_) <;> first | (exfalso; omega) | contradiction | conv => whnf)
                  | (refine br_not ?_; conv => whnf)
                  | (refine br_bne (fun _ => ?_) (fun _ => ?_) <;> first | (exfalso; omega) | contradiction | conv => whnf)
                  | (refine br_beq (fun _ => ?_) (fun _ => ?_) <;> first | (exfalso; omega) | contradiction | conv => whnf))
                all_goals
                  refine Pick.mk (j, d, (last.take k), all + ((last.take k) : List UInt8).length, out ++ [(last.take k)], true) ⟨⟨by dsimp only; omega, hd, by dsimp only; omega, by dsimp only; omega, by simp; omega, by rw [if_pos rfl, h6, hT2]; rfl⟩, by dsimp only; omega⟩ (LeX.of ?_)
                  try (conv => whnf)
                  repeat (refine Need.mk ?_ ?_; (focus (first | omega | (simp only [List.length_map, List.length_append, List.length_cons, List.length_nil, List.length_replicate]; omega) | (simp; done))); conv => whnf)
                  trivial
              | some r =>
                obtain ⟨m, d⟩ := r
                obtain ⟨m1, m2, m3, m4, m5⟩ := get_inv hm
                simp only [MaxN] at m4
                have hT2 := tsN_step (n := j) (last := last) (all := all) hk hm
                refine Hand.mk [] ?_
                try (conv => whnf)
                refine CallW.n (s_num hm (by omega)) ?_
                rintro _ _ ⟨rfl, rfl⟩
                try (conv => whnf)
                repeat (refine Need.mk ?_ ?_; (focus (((conv => whnf); (repeat (first | (refine Need.mk (by first | rfl | omega | (simp; done)) ?_; conv => whnf) | (refine Pick.mk ?_ ?_ ?_; rotate_left; (focus (first | with_reducible exact xor_u8 _ _ | (with_reducible refine xor_i64 ?_ ?_; all_goals omega) | (with_reducible refine xor_u32 ?_ ?_; all_goals omega) | assumption | with_reducible exact set_byN _ _ _ _ | with_reducible exact set_byI _ _ _ _ | with_reducible exact set_inN _ _ _ _ | with_reducible exact set_inI _ _ _ _ | with_reducible exact set_stN _ _ _ _ | with_reducible exact set_tsN _ _ _ _ | with_reducible exact set_tsI _ _ _ _ | with_reducible exact set_boN _ _ _ _ | with_reducible exact set_boI _ _ _ _ | (with_reducible refine get_mapN _ _ _ ?_; first | omega | (simp; omega)) | (with_reducible refine get_mapI _ _ _ ?_ ?_ <;> first | omega | (simp; omega)) | exact bs_beq _ _ | exact bs_less _ _ | exact bs_leq _ _ | with_reducible exact bs_app _ _ | (refine bs_get _ _ ?_; omega) | (refine bs_int _ _ ?_ ?_ <;> omega) | with_reducible exact sl_map0 _ _ _ | with_reducible exact sl_mapN _ _ _ | with_reducible exact sl_map _ _ _ _ | exact bs_extract0 _ _ | exact bs_extractN _ _ | exact bs_extract _ _ _ | (refine bnd_id ?_; omega) | (refine bnd_sub ?_ ?_ <;> omega) | (refine bnd_add ?_; omega) | (refine bnd_subN ?_ ?_ <;> omega) | (refine bnd_int ?_ ?_ <;> omega) | exact List.length_map _ | exact size_bs _ | (simp only [List.length_map, List.length_append, List.length_cons, List.length_nil, List.length_replicate, Nat.zero_add]; rfl) | with_reducible exact List.nil_append _ | with_reducible exact map_app _ _ _ | exact map_snoc byD _ _ | exact map_snoc inD _ _ | exact map_snoc stD _ _ | exact map_snoc tsD _ _ | (simp only [chunks]; rfl) | (refine wid ?_ ?_ <;> omega) | exact wby _ | with_reducible exact wby32 _ | with_reducible exact wu32 _ | exact wby64 _ | exact shr8 _ | exact shr16 _ | exact shr24 _ | exact shr32 _ | (refine tmodn ?_; omega) | (refine wdiv ?_ ?_ ?_ <;> omega) | exact wbyte _ | exact natlit _ | exact rep_by _ | exact rep_in _ | exact rep_bo _ | exact rep_st _ | (refine pick_nat _ _ _ ?_; omega) | (refine pick_int _ _ _ ?_ ?_ <;> omega) | (refine SlOf.full ?_; first | (simp; done) | (simp; omega)) | (with_reducible refine SlOf.pre _ _ ?_; first | omega | (simp; omega)) | ((fail_if_success (show @Eq (Option _) _ _)); rfl) | ((show @Eq (Option _) _ _); simp only [List.getElem?_cons_zero, List.getElem?_cons_succ]; done) | ((show @Eq (Option _) _ _); simp only [List.getElem?_cons_zero, List.getElem?_cons_succ]; rfl) | with_reducible rfl)); conv => whnf))); exact Done.mk trivial))); conv => whnf)
                rcases Nat.lt_or_ge (l.length - d) m with hlm | hlm
                · have hT2 : tsN l (j + 1) b last all = none := by rw [hT2, if_neg (by omega)]
                  refine Hand.mk [] ?_
                  try (conv => whnf)
                  refine CallW.n (s_takeN (.inr hlm) m3 (by omega) (by simp only [MaxN]; omega)) ?_
                  rintro _ _ ⟨rfl, rfl⟩
                  have hlt : ((last.take k) : List UInt8).length ≤ 2 ^ 31 := (by simp; omega)
                  have hq : bs (last.take k) ++ bs [] = bs (last.take k) := by rw [bs_app, List.append_nil]
                  try (conv => whnf)
                  repeat (first
                    | (refine Need.mk ?_ ?_; (focus (first | (simp; omega) | ((conv => whnf); (repeat (first | (refine Need.mk (by first | rfl | omega | (simp; done)) ?_; conv => whnf) | (refine Pick.mk ?_ ?_ ?_; rotate_left; (focus (first | with_reducible exact xor_u8 _ _ | (with_reducible refine xor_i64 ?_ ?_; all_goals omega) | (with_reducible refine xor_u32 ?_ ?_; all_goals omega) | assumption | with_reducible exact set_byN _ _ _ _ | with_reducible exact set_byI _ _ _ _ | with_reducible exact set_inN _ _ _ _ | with_reducible exact set_inI _ _ _ _ | with_reducible exact set_stN _ _ _ _ | with_reducible exact set_tsN _ _ _ _ | with_reducible exact set_tsI _ _ _ _ | with_reducible exact set_boN _ _ _ _ | with_reducible exact set_boI _ _ _ _ | (with_reducible refine get_mapN _ _ _ ?_; first | omega | (simp; omega)) | (with_reducible refine get_mapI _ _ _ ?_ ?_ <;> first | omega | (simp; omega)) | exact bs_beq _ _ | exact bs_less _ _ | exact bs_leq _ _ | with_reducible exact bs_app _ _ | (refine bs_get _ _ ?_; omega) | (refine bs_int _ _ ?_ ?_ <;> omega) | with_reducible exact sl_map0 _ _ _ | with_reducible exact sl_mapN _ _ _ | with_reducible exact sl_map _ _ _ _ | exact bs_extract0 _ _ | exact bs_extractN _ _ | exact bs_extract _ _ _ | (refine bnd_id ?_; omega) | (refine bnd_sub ?_ ?_ <;> omega) | (refine bnd_add ?_; omega) | (refine bnd_subN ?_ ?_ <;> omega) | (refine bnd_int ?_ ?_ <;> omega) | exact List.length_map _ | exact size_bs _ | (simp only [List.length_map, List.length_append, List.length_cons, List.length_nil, List.length_replicate, Nat.zero_add]; rfl) | with_reducible exact List.nil_append _ | with_reducible exact map_app _ _ _ | exact map_snoc byD _ _ | exact map_snoc inD _ _ | exact map_snoc stD _ _ | exact map_snoc tsD _ _ | (simp only [chunks]; rfl) | (refine wid ?_ ?_ <;> omega) | exact wby _ | with_reducible exact wby32 _ | with_reducible exact wu32 _ | exact wby64 _ | exact shr8 _ | exact shr16 _ | exact shr24 _ | exact shr32 _ | (refine tmodn ?_; omega) | (refine wdiv ?_ ?_ ?_ <;> omega) | exact wbyte _ | exact natlit _ | exact rep_by _ | exact rep_in _ | exact rep_bo _ | exact rep_st _ | (refine pick_nat _ _ _ ?_; omega) | (refine pick_int _ _ _ ?_ ?_ <;> omega) | (refine SlOf.full ?_; first | (simp; done) | (simp; omega)) | (with_reducible refine SlOf.pre _ _ ?_; first | omega | (simp; omega)) | ((fail_if_success (show @Eq (Option _) _ _)); rfl) | ((show @Eq (Option _) _ _); simp only [List.getElem?_cons_zero, List.getElem?_cons_succ]; done) | ((show @Eq (Option _) _ _); simp only [List.getElem?_cons_zero, List.getElem?_cons_succ]; rfl) | with_reducible rfl)); conv => whnf))); exact Done.mk trivial))); conv => whnf)
                    | (refine Pick.mk ?_ ?_ ?_; rotate_left; (focus (assumption)); conv => whnf)
                    | (refine SeqJ.thru ?_; conv => whnf))
                  refine Hand.mk [] ?_
                  try (conv => whnf)
                  refine CallW.d (s_l01Alike last (last.take k) (by omega) (by omega)) ?_
                  try (conv => whnf)
                  try (conv => whnf)
                  repeat' (first
                    | (refine Need.mk ?_ ?_; (focus (omega)); conv => whnf)
                    | (refine Pick.mk ?_ ?_ ?_; rotate_left; (focus (first | exact size_bs _ | (simp only [List.length_map, List.length_append, List.length_cons, List.length_nil, List.length_replicate, Nat.zero_add]; rfl) | exact map_snoc tsD _ _ | (simp only [chunks]; rfl) | (refine wid ?_ ?_ <;> omega) | (refine SlOf.full ?_; first | (simp; done) | (simp; omega)))); conv => whnf)
                    | (refine SeqJ.thru ?_; conv => whnf)
                    | (refine br_dec (fun _ => ?_) (fun _ => ?_) <;> first | (exfalso; omega) | contradiction | conv => whnf)
                    | (refine br_not ?_; conv => whnf)
                    | (refine br_bne (fun _ => ?_) (fun _ => ?_) <;> first | (exfalso; omega) | contradiction | conv => whnf)
                    | (refine br_beq (fun _ => ?_) (fun _ => ?_) <;> first | (exfalso; omega) | contradiction | conv => whnf))
                  all_goals
                    refine Pick.mk (j, d, (last.take k), all + ((last.take k) : List UInt8).length, out ++ [(last.take k)], true) ⟨⟨by dsimp only; omega, m3, by dsimp only; omega, by dsimp only; omega, by simp; omega, by rw [if_pos rfl, h6, hT2]; rfl⟩, by dsimp only; omega⟩ (LeX.of ?_)
                    try (conv => whnf)
                    repeat (refine Need.mk ?_ ?_; (focus (first | omega | (simp only [List.length_map, List.length_append, List.length_cons, List.length_nil, List.length_replicate]; omega) | (simp; done))); conv => whnf)
                    trivial
                · refine Hand.mk [] ?_
                  try (conv => whnf)
                  refine CallW.n (s_take hlm m3 (by omega)) ?_
                  rintro _ _ ⟨rfl, rfl⟩
                  have hlen : (last.take k ++ (l.drop d).take m).length = k + m := by simp; omega
                  have hdm : d + m ≤ l.length := by omega
                  try (conv => whnf)
                  repeat (first
                    | (refine Need.mk ?_ ?_; (focus (first | (simp; omega) | ((conv => whnf); (repeat (first | (refine Need.mk (by first | rfl | omega | (simp; done)) ?_; conv => whnf) | (refine Pick.mk ?_ ?_ ?_; rotate_left; (focus (first | with_reducible exact xor_u8 _ _ | (with_reducible refine xor_i64 ?_ ?_; all_goals omega) | (with_reducible refine xor_u32 ?_ ?_; all_goals omega) | assumption | with_reducible exact set_byN _ _ _ _ | with_reducible exact set_byI _ _ _ _ | with_reducible exact set_inN _ _ _ _ | with_reducible exact set_inI _ _ _ _ | with_reducible exact set_stN _ _ _ _ | with_reducible exact set_tsN _ _ _ _ | with_reducible exact set_tsI _ _ _ _ | with_reducible exact set_boN _ _ _ _ | with_reducible exact set_boI _ _ _ _ | (with_reducible refine get_mapN _ _ _ ?_; first | omega | (simp; omega)) | (with_reducible refine get_mapI _ _ _ ?_ ?_ <;> first | omega | (simp; omega)) | exact bs_beq _ _ | exact bs_less _ _ | exact bs_leq _ _ | with_reducible exact bs_app _ _ | (refine bs_get _ _ ?_; omega) | (refine bs_int _ _ ?_ ?_ <;> omega) | with_reducible exact sl_map0 _ _ _ | with_reducible exact sl_mapN _ _ _ | with_reducible exact sl_map _ _ _ _ | exact bs_extract0 _ _ | exact bs_extractN _ _ | exact bs_extract _ _ _ | (refine bnd_id ?_; omega) | (refine bnd_sub ?_ ?_ <;> omega) | (refine bnd_add ?_; omega) | (refine bnd_subN ?_ ?_ <;> omega) | (refine bnd_int ?_ ?_ <;> omega) | exact List.length_map _ | exact size_bs _ | (simp only [List.length_map, List.length_append, List.length_cons, List.length_nil, List.length_replicate, Nat.zero_add]; rfl) | with_reducible exact List.nil_append _ | with_reducible exact map_app _ _ _ | exact map_snoc byD _ _ | exact map_snoc inD _ _ | exact map_snoc stD _ _ | exact map_snoc tsD _ _ | (simp only [chunks]; rfl) | (refine wid ?_ ?_ <;> omega) | exact wby _ | with_reducible exact wby32 _ | with_reducible exact wu32 _ | exact wby64 _ | exact shr8 _ | exact shr16 _ | exact shr24 _ | exact shr32 _ | (refine tmodn ?_; omega) | (refine wdiv ?_ ?_ ?_ <;> omega) | exact wbyte _ | exact natlit _ | exact rep_by _ | exact rep_in _ | exact rep_bo _ | exact rep_st _ | (refine pick_nat _ _ _ ?_; omega) | (refine pick_int _ _ _ ?_ ?_ <;> omega) | (refine SlOf.full ?_; first | (simp; done) | (simp; omega)) | (with_reducible refine SlOf.pre _ _ ?_; first | omega | (simp; omega)) | ((fail_if_success (show @Eq (Option _) _ _)); rfl) | ((show @Eq (Option _) _ _); simp only [List.getElem?_cons_zero, List.getElem?_cons_succ]; done) | ((show @Eq (Option _) _ _); simp only [List.getElem?_cons_zero, List.getElem?_cons_succ]; rfl) | with_reducible rfl)); conv => whnf))); exact Done.mk trivial))); conv => whnf)
                    | (refine Pick.mk ?_ ?_ ?_; rotate_left; (focus (with_reducible exact bs_app _ _)); conv => whnf)
                    | (refine SeqJ.thru ?_; conv => whnf))
                  refine Hand.mk [] ?_
                  try (conv => whnf)
                  refine CallW.d (s_l01Alike last (last.take k ++ (l.drop d).take m) (by omega) (by omega)) ?_
                  try (conv => whnf)
                  try (conv => whnf)
                  repeat' (first
                    | (refine Need.mk ?_ ?_; (focus (omega)); conv => whnf)
                    | (refine Pick.mk ?_ ?_ ?_; rotate_left; (focus (first | assumption | (simp only [List.length_map, List.length_append, List.length_cons, List.length_nil, List.length_replicate, Nat.zero_add]; rfl) | exact map_snoc tsD _ _ | (simp only [chunks]; rfl) | (refine wid ?_ ?_ <;> omega) | (refine SlOf.full ?_; first | (simp; done) | (simp; omega)))); conv => whnf)
                    | (refine SeqJ.thru ?_; conv => whnf)
                    | (refine br_dec (fun _ => ?_) (fun _ => ?_) <;> first | (exfalso; omega) | contradiction | conv => whnf)
                    | (refine br_not ?_; conv => whnf)
                    | (refine br_bne (fun _ => ?_) (fun _ => ?_) <;> first | (exfalso; omega) | contradiction | conv => whnf)
                    | (refine br_beq (fun _ => ?_) (fun _ => ?_) <;> first | (exfalso; omega) | contradiction | conv => whnf))
                  · have hT3 : tsN l (j + 1) b last all = none := by rw [hT2, if_neg (by simp only [MaxB]; omega)]
                    refine Pick.mk (j, d + m, (last.take k ++ (l.drop d).take m), all + (k + m), out ++ [(last.take k ++ (l.drop d).take m)], true) ⟨⟨by dsimp only; omega, hdm, by dsimp only; omega, by dsimp only; omega, by simp; omega, by rw [if_pos rfl, h6, hT3]; rfl⟩, by dsimp only; omega⟩ (LeX.of ?_)
                    try (conv => whnf)
                    repeat (refine Need.mk ?_ ?_; (focus (first | omega | (simp only [List.length_map, List.length_append, List.length_cons, List.length_nil, List.length_replicate]; omega) | (simp; done))); conv => whnf)
                    trivial
                  · refine Pick.mk (j, d + m, (last.take k ++ (l.drop d).take m), all + (k + m), out ++ [(last.take k ++ (l.drop d).take m)], false) ⟨⟨by dsimp only; omega, hdm, by dsimp only; omega, by dsimp only; omega, by simp; omega, ?_⟩, by dsimp only; omega⟩ (LeX.of ?_)
                    · rw [if_neg (by simp)]
                      refine ⟨by simp only [MaxB]; omega, ?_⟩
                      dsimp only
                      rw [h6, hT2, if_pos ⟨by omega, hlm, by simp only [MaxB]; omega, by omega⟩, Option.map_map]
                      congr 1
                      funext r
                      simp
                    · try (conv => whnf)
                      repeat (refine Need.mk ?_ ?_; (focus (first | omega | (simp only [List.length_map, List.length_append, List.length_cons, List.length_nil, List.length_replicate]; omega) | (simp; done))); conv => whnf)
                      trivial
                  · have hT3 : tsN l (j + 1) b last all = none := by rw [hT2, if_neg (by simp only [MaxB]; omega)]
                    refine Pick.mk (j, d + m, (last.take k ++ (l.drop d).take m), all + (k + m), out ++ [(last.take k ++ (l.drop d).take m)], true) ⟨⟨by dsimp only; omega, hdm, by dsimp only; omega, by dsimp only; omega, by simp; omega, by rw [if_pos rfl, h6, hT3]; rfl⟩, by dsimp only; omega⟩ (LeX.of ?_)
                    try (conv => whnf)
                    repeat (refine Need.mk ?_ ?_; (focus (first | omega | (simp only [List.length_map, List.length_append, List.length_cons, List.length_nil, List.length_replicate]; omega) | (simp; done))); conv => whnf)
                    trivial
                  · have hT3 : tsN l (j + 1) b last all = none := by rw [hT2, if_neg (by simp only [MaxB]; omega)]
                    refine Pick.mk (j, d + m, (last.take k ++ (l.drop d).take m), all + (k + m), out ++ [(last.take k ++ (l.drop d).take m)], true) ⟨⟨by dsimp only; omega, hdm, by dsimp only; omega, by dsimp only; omega, by simp; omega, by rw [if_pos rfl, h6, hT3]; rfl⟩, by dsimp only; omega⟩ (LeX.of ?_)
                    try (conv => whnf)
                    repeat (refine Need.mk ?_ ?_; (focus (first | omega | (simp only [List.length_map, List.length_append, List.length_cons, List.length_nil, List.length_replicate]; omega) | (simp; done))); conv => whnf)
                    trivial
  · have hT : getT l a = none := by
      simp only [getT]
      split
      · rfl
      · rename_i n b h
        rw [if_neg fun hn => hg ⟨n, b, h, hn⟩]
    refine Hand.mk [] ?_
    try (conv => whnf)
    refine CallW.n (s_countN (fun x y h => by rcases Nat.lt_or_ge 4096 x with g | g; exact g; exact absurd ⟨x, y, h, g⟩ hg) (by omega) ha) ?_
    rintro _ _ ⟨b, rfl, rfl, hb⟩
    try (conv => whnf)
    refine LoopE.mk (fun (_ : Nat) => mk [(0, .one (.ptr 0 0)), (3, .one (.os 8192 1 0 0)), (6, vI .i64 0)] [(0, rdR l b true), (8192, .own 1 [])]) (fun _ => True) (fun x => x) 0 trivial (LeX.of ?_) ?_
    · try (conv => whnf)
      repeat (refine Need.mk ?_ ?_; (focus (first | omega | (simp; done))); conv => whnf)
      trivial
    · rintro _ -
      try (conv => whnf)
      repeat' (first
        | (refine SeqJ.thru ?_; conv => whnf)
        | (refine br_dec (fun _ => ?_) (fun _ => ?_) <;> first | (exfalso; omega) | contradiction | conv => whnf)
        | (refine br_not ?_; conv => whnf)
        | (refine br_bne (fun _ => ?_) (fun _ => ?_) <;> first | (exfalso; omega) | contradiction | conv => whnf)
        | (refine br_beq (fun _ => ?_) (fun _ => ?_) <;> first | (exfalso; omega) | contradiction | conv => whnf))
      refine Out.mk false [0, 1, 2, 3, 4] [] ?_
      try (conv => whnf)
      exact ⟨b, true, [], rfl, rfl, hb, by rw [hT]⟩
end Go.Proofs.Ytoklfidamhigcaa.D
