/- Numbers, texts and lists drawn. -/
import Derived.Test.YtoklfidamhigcaaSrc
import Derived.Test.YtoklfidamhigcaaPCod
namespace Go.Proofs.Ytoklfidamhigcaa.D
open Go.RowKit
set_option maxRecDepth 100000
set_option maxHeartbeats 4000000
set_option linter.unusedVariables false
set_option linter.unusedSimpArgs false
section
variable {code : List UInt8} {a s b : Int}
abbrev i64ok (v : Int) : Prop := -9223372036854775808 ≤ v ∧ v ≤ 9223372036854775807
theorem s_num_ (hS : Src code a s b) (hb : b ≤ 2 ^ 58) :
    CallM Try.prog id_spec_l01Src_num [.one (.ptr 0 0)] [srcR code a s] [] false (Draws code (b + 9) (DI i64ok)) := by
  refine F_spec_l01Src_num ?_
  try (conv => whnf)
  refine Hand.mk [] ?_
  try (conv => whnf)
  refine CallW.n (s_next hS (by omega) 12 (by omega)) ?_
  rintro _ _ ⟨a1, s1, _, rfl, hS1, v1, rfl, rfl, hv1⟩
  try (conv => whnf)
  try (conv => whnf)
  repeat' (first
    | (refine Pick.mk ?_ ?_ ?_; rotate_left; (focus ((simp only [chunks]; rfl))); conv => whnf)
    | (refine SeqJ.thru ?_; conv => whnf)
    | (refine br_dec (fun _ => ?_) (fun _ => ?_) <;> first | (exfalso; omega) | contradiction | conv => whnf)
    | (refine br_not ?_; conv => whnf)
    | (refine br_bne (fun _ => ?_) (fun _ => ?_) <;> first | (exfalso; omega) | contradiction | conv => whnf)
    | (refine br_beq (fun _ => ?_) (fun _ => ?_) <;> first | (exfalso; omega) | contradiction | conv => whnf))
  · refine Hand.mk [] ?_
    try (conv => whnf)
    refine CallW.n (s_next hS1 (by omega) 9 (by omega)) ?_
    rintro _ _ ⟨a2, s2, _, rfl, hS2, v2, rfl, rfl, hv2⟩
    try (conv => whnf)
    repeat (refine Need.mk ?_ ?_; (focus (omega)); conv => whnf)
    refine pickI (fun x => decide (0 ≤ x) && decide (x ≤ 4611686018427387904)) rfl (by rw [addN_eq]; show _ < 9; omega) fun x hx => ?_
    simp at hx
    try (conv => whnf)
    refine Out.mk false [0, 1, 2, 3, 4] [] ?_
    try (conv => whnf)
    exact ⟨_, _, [], rfl, hS2.mono (by omega), _, rfl, rfl, by omega, by omega⟩
  · refine Hand.mk [] ?_
    try (conv => whnf)
    refine CallW.n (s_next hS1 (by omega) 16777216 (by omega)) ?_
    rintro _ _ ⟨a2, s2, _, rfl, hS2, v2, rfl, rfl, hv2⟩
    try (conv => whnf)
    repeat (refine Pick.mk ?_ ?_ ?_; rotate_left; (focus ((refine wid ?_ ?_ <;> omega))); conv => whnf)
    refine Hand.mk [] ?_
    try (conv => whnf)
    refine CallW.n (s_next hS2 (by omega) 65536 (by omega)) ?_
    rintro _ _ ⟨a3, s3, _, rfl, hS3, v3, rfl, rfl, hv3⟩
    try (conv => whnf)
    repeat (refine Pick.mk ?_ ?_ ?_; rotate_left; (focus ((refine wid ?_ ?_ <;> omega))); conv => whnf)
    refine Out.mk false [0, 1, 2, 3, 4] [] ?_
    try (conv => whnf)
    exact ⟨_, _, [], rfl, hS3.mono (by omega), _, rfl, rfl, by omega, by omega⟩
  · refine Hand.mk [] ?_
    try (conv => whnf)
    refine CallW.n (s_next hS1 (by omega) 4 (by omega)) ?_
    rintro _ _ ⟨a2, s2, _, rfl, hS2, v2, rfl, rfl, hv2⟩
    try (conv => whnf)
    repeat (refine Need.mk ?_ ?_; (focus (omega)); conv => whnf)
    refine pickI (fun x => decide (-9223372036854775808 ≤ x) && decide (x ≤ 9223372036854775807)) rfl (by rw [addN_eq]; show _ < 4; omega) fun x hx => ?_
    simp at hx
    try (conv => whnf)
    refine Out.mk false [0, 1, 2, 3, 4] [] ?_
    try (conv => whnf)
    exact ⟨_, _, [], rfl, hS2.mono (by omega), _, rfl, rfl, by omega, by omega⟩
  · refine Hand.mk [] ?_
    try (conv => whnf)
    refine CallW.n (s_next hS1 (by omega) 100000 (by omega)) ?_
    rintro _ _ ⟨a2, s2, _, rfl, hS2, v2, rfl, rfl, hv2⟩
    try (conv => whnf)
    refine Out.mk false [0, 1, 2, 3, 4] [] ?_
    try (conv => whnf)
    exact ⟨_, _, [], rfl, hS2.mono (by omega), _, rfl, rfl, by omega, by omega⟩
  · refine Hand.mk [] ?_
    try (conv => whnf)
    refine CallW.n (s_next hS1 (by omega) 100000 (by omega)) ?_
    rintro _ _ ⟨a2, s2, _, rfl, hS2, v2, rfl, rfl, hv2⟩
    try (conv => whnf)
    refine Out.mk false [0, 1, 2, 3, 4] [] ?_
    try (conv => whnf)
    exact ⟨_, _, [], rfl, hS2.mono (by omega), _, rfl, rfl, by omega, by omega⟩
  · refine Hand.mk [] ?_
    try (conv => whnf)
    refine CallW.n (s_next hS1 (by omega) 60 (by omega)) ?_
    rintro _ _ ⟨a2, s2, _, rfl, hS2, v2, rfl, rfl, hv2⟩
    try (conv => whnf)
    refine Out.mk false [0, 1, 2, 3, 4] [] ?_
    try (conv => whnf)
    exact ⟨_, _, [], rfl, hS2.mono (by omega), _, rfl, rfl, by omega, by omega⟩
theorem s_size (hS : Src code a s b) (m : Int) (h0 : 0 ≤ m) (hm : m ≤ 2 ^ 40) :
    CallM Try.prog id_spec_l01Src_size [.one (.ptr 0 0), vI .i64 m] [srcR code a s] [] false (Draws code b (DI fun v => 0 ≤ v ∧ v ≤ m)) := by
  refine F_spec_l01Src_size ?_
  have hl := hS.len
  try (conv => whnf)
  repeat (first
    | (refine Need.mk ?_ ?_; (focus (omega)); conv => whnf)
    | (refine Pick.mk ?_ ?_ ?_; rotate_left; (focus (first | exact List.length_map _ | (refine wid ?_ ?_ <;> omega) | (refine wdiv ?_ ?_ ?_ <;> omega))); conv => whnf))
  refine Out.mk false [0, 1, 2, 3, 4] [] ?_
  try (conv => whnf)
  exact ⟨_, _, [], rfl, hS, _, rfl, rfl, by omega, by omega⟩
theorem tot_snoc (l : List (List UInt8)) (t : List UInt8) : total (l ++ [t]) = total l + t.length := by simp [total]
theorem s_l01Texts (hS : Src code a s b) (hb : b ≤ 2 ^ 57) :
    CallM Try.prog id_spec_l01Texts [.one (.ptr 0 0)] [srcR code a s] [] false (Draws code (b + 200) fun r Lo => ∃ ts : List (List UInt8), Lo = [.own 1 (ts.map tsD)] ∧ r = .one (.os 1 1 0 ts.length) ∧ ts.length ≤ 30 ∧ total ts ≤ 10 * ts.length) := by
  refine F_spec_l01Texts ?_
  try (conv => whnf)
  repeat (refine Pick.mk ?_ ?_ ?_; rotate_left; (focus ((simp only [chunks]; rfl))); conv => whnf)
  refine Hand.mk [] ?_
  try (conv => whnf)
  refine CallW.n (s_size hS 30 (by omega) (by omega)) ?_
  rintro _ _ ⟨a1, s1, _, rfl, hS1, v1, rfl, rfl, hv1⟩
  try (conv => whnf)
  repeat (refine Pick.mk ?_ ?_ ?_; rotate_left; (focus ((refine wid ?_ ?_ <;> omega))); conv => whnf)
  refine Hand.mk [] ?_
  try (conv => whnf)
  refine CallW.n (s_next hS1 (by omega) (v1 + 1) (by omega)) ?_
  rintro _ _ ⟨a2, s2, _, rfl, hS2, v2, rfl, rfl, hv2⟩
  try (conv => whnf)
  obtain ⟨n, rfl⟩ : ∃ n : Nat, v2 = n := ⟨v2.toNat, by omega⟩
  refine LoopE.mk (fun (x : Nat × Int × Int × List (List UInt8)) => mk [(0, .one (.ptr 0 0)), (3, .one (.os 8192 1 0 x.2.2.2.length)), (4, vI .i64 x.1)] [(0, srcR code x.2.1 x.2.2.1), (8192, .own 1 (x.2.2.2.map tsD))])
    (fun x => x.1 ≤ n ∧ x.2.2.2.length + x.1 = n ∧ total x.2.2.2 ≤ 10 * x.2.2.2.length ∧ Src code x.2.1 x.2.2.1 (b + 3 + 6 * (n - x.1 : Nat))) (fun x => x.1) (n, a2, s2, []) ⟨by omega, by simp, by simp [total], hS2.mono (by simp)⟩ (LeX.of ?_) ?_
  · try (conv => whnf)
    repeat (refine Need.mk ?_ ?_; (focus (first | omega | (simp; done))); conv => whnf)
    trivial
  · rintro ⟨i, a, s, ts⟩ ⟨i1, i2, i3, hS⟩
    dsimp only at i1 i2 i3 hS ⊢
    try (conv => whnf)
    repeat' (first
      | (refine SeqJ.thru ?_; conv => whnf)
      | (refine br_dec (fun _ => ?_) (fun _ => ?_) <;> first | (exfalso; omega) | contradiction | conv => whnf)
      | (refine br_not ?_; conv => whnf)
      | (refine br_bne (fun _ => ?_) (fun _ => ?_) <;> first | (exfalso; omega) | contradiction | conv => whnf)
      | (refine br_beq (fun _ => ?_) (fun _ => ?_) <;> first | (exfalso; omega) | contradiction | conv => whnf))
    · refine Hand.mk [] ?_
      try (conv => whnf)
      refine CallW.n (s_word hS (by omega)) ?_
      rintro _ _ ⟨a3, s3, _, rfl, hS3, v3, rfl, rfl, hv3⟩
      try (conv => whnf)
      refine Hand.mk [] ?_
      try (conv => whnf)
      refine CallW.n (s_word hS3 (by omega)) ?_
      rintro _ _ ⟨a4, s4, _, rfl, hS4, v4, rfl, rfl, hv4⟩
      try (conv => whnf)
      repeat (first
        | (refine Need.mk ?_ ?_; (focus (first | omega | (simp; omega))); conv => whnf)
        | (refine Pick.mk ?_ ?_ ?_; rotate_left; (focus (first | with_reducible exact bs_app _ _ | (simp only [List.length_map, List.length_append, List.length_cons, List.length_nil, List.length_replicate, Nat.zero_add]; rfl) | exact map_snoc tsD _ _ | (simp only [chunks]; rfl) | (refine wid ?_ ?_ <;> omega) | (refine SlOf.full ?_; first | (simp; done) | (simp; omega)))); conv => whnf))
      refine Pick.mk (i - 1, a4, s4, ts ++ [v3 ++ v4]) ⟨⟨by dsimp only; omega, by simp; omega, by dsimp only; rw [tot_snoc]; simp; omega, hS4.mono (by dsimp only; omega)⟩, by dsimp only; omega⟩ (LeX.of ?_)
      try (conv => whnf)
      repeat (refine Need.mk ?_ ?_; (focus (first | omega | (simp; done))); conv => whnf)
      trivial
    · refine Out.mk false [0, 1, 2, 3, 4] [] ?_
      try (conv => whnf)
      exact ⟨_, _, _, rfl, hS.mono (by omega), _, rfl, rfl, by omega, i3⟩
theorem s_l01Numbers (hS : Src code a s b) (hb : b ≤ 2 ^ 57) :
    CallM Try.prog id_spec_l01Numbers [.one (.ptr 0 0)] [srcR code a s] [] false (Draws code (b + 2000) fun r Lo => ∃ xs : List Int, Lo = [.own 1 (xs.map inD)] ∧ r = .one (.os 1 1 0 xs.length) ∧ xs.length ≤ 50 ∧ ∀ x ∈ xs, 0 ≤ x ∧ x ≤ 1152921504606847175) := by
  refine F_spec_l01Numbers ?_
  try (conv => whnf)
  repeat (refine Pick.mk ?_ ?_ ?_; rotate_left; (focus ((simp only [chunks]; rfl))); conv => whnf)
  refine Hand.mk [] ?_
  try (conv => whnf)
  refine CallW.n (s_next hS (by omega) 50 (by omega)) ?_
  rintro _ _ ⟨a1, s1, _, rfl, hS1, v1, rfl, rfl, hv1⟩
  try (conv => whnf)
  refine Hand.mk [] ?_
  try (conv => whnf)
  refine CallW.n (s_next hS1 (by omega) 5 (by omega)) ?_
  rintro _ _ ⟨a2, s2, _, rfl, hS2, v2, rfl, rfl, hv2⟩
  try (conv => whnf)
  repeat (refine Pick.mk ?_ ?_ ?_; rotate_left; (focus ((refine wid ?_ ?_ <;> omega))); conv => whnf)
  refine Hand.mk [] ?_
  try (conv => whnf)
  refine CallW.n (s_size hS2 50 (by omega) (by omega)) ?_
  rintro _ _ ⟨a3, s3, _, rfl, hS3, v3, rfl, rfl, hv3⟩
  try (conv => whnf)
  repeat (refine Pick.mk ?_ ?_ ?_; rotate_left; (focus ((refine wid ?_ ?_ <;> omega))); conv => whnf)
  refine Hand.mk [] ?_
  try (conv => whnf)
  refine CallW.n (s_next hS3 (by omega) (v3 + 1) (by omega)) ?_
  rintro _ _ ⟨a4, s4, _, rfl, hS4, v4, rfl, rfl, hv4⟩
  try (conv => whnf)
  obtain ⟨n, rfl⟩ : ∃ n : Nat, v4 = n := ⟨v4.toNat, by omega⟩
  refine LoopE.mk (fun (x : Nat × Int × Int × List Int × Int × Int) => mk [(0, .one (.ptr 0 0)), (3, .one (.os 8192 1 0 x.2.2.2.1.length)), (4, vI .i64 x.2.2.2.2.1), (5, vI .i64 x.2.2.2.2.2), (6, vI .i64 x.1)] [(0, srcR code x.2.1 x.2.2.1), (8192, .own 1 (x.2.2.2.1.map inD))])
    (fun x => x.1 ≤ n ∧ x.2.2.2.1.length + x.1 = n ∧ (∀ y ∈ x.2.2.2.1, 0 ≤ y ∧ y ≤ 1152921504606847175) ∧ (0 ≤ x.2.2.2.2.1 ∧ x.2.2.2.2.1 ≤ 1152921504606846975 + 2 * (n - x.1 : Nat)) ∧ (-2 ≤ x.2.2.2.2.2 ∧ x.2.2.2.2.2 ≤ 2) ∧ Src code x.2.1 x.2.2.1 (b + 9 + 18 * (n - x.1 : Nat))) (fun x => x.1) (n, a4, s4, [], v1, v2 - 2) ⟨by omega, by simp, by simp, by dsimp only; omega, by dsimp only; omega, hS4.mono (by dsimp only; omega)⟩ (LeX.of ?_) ?_
  · try (conv => whnf)
    repeat (refine Need.mk ?_ ?_; (focus (first | omega | (simp; done))); conv => whnf)
    trivial
  · rintro ⟨i, a, s, xs, v, d⟩ ⟨i1, i2, i3, i4, i5, hS⟩
    dsimp only at i1 i2 i3 i4 i5 hS ⊢
    rcases Nat.eq_zero_or_pos i with h0 | h0
    · subst h0
      try (conv => whnf)
      repeat' (first
        | (refine SeqJ.thru ?_; conv => whnf)
        | (refine br_dec (fun _ => ?_) (fun _ => ?_) <;> first | (exfalso; omega) | contradiction | conv => whnf)
        | (refine br_not ?_; conv => whnf)
        | (refine br_bne (fun _ => ?_) (fun _ => ?_) <;> first | (exfalso; omega) | contradiction | conv => whnf)
        | (refine br_beq (fun _ => ?_) (fun _ => ?_) <;> first | (exfalso; omega) | contradiction | conv => whnf))
      refine Out.mk false [0, 1, 2, 3, 4] [] ?_
      try (conv => whnf)
      exact ⟨_, _, _, rfl, hS.mono (by omega), _, rfl, rfl, by omega, i3⟩
    · have i6 : ∀ y ∈ xs ++ [v], 0 ≤ y ∧ y ≤ 1152921504606847175 := fun y hy => by
        rcases List.mem_append.1 hy with hy | hy
        · exact i3 y hy
        · simp at hy; subst hy; omega
      try (conv => whnf)
      repeat' (first
        | (refine Need.mk ?_ ?_; (focus (omega)); conv => whnf)
        | (refine Pick.mk ?_ ?_ ?_; rotate_left; (focus (first | (simp only [List.length_map, List.length_append, List.length_cons, List.length_nil, List.length_replicate, Nat.zero_add]; rfl) | exact map_snoc inD _ _ | (simp only [chunks]; rfl) | (refine wid ?_ ?_ <;> omega) | (refine SlOf.full ?_; first | (simp; done) | (simp; omega)))); conv => whnf)
        | (refine SeqJ.thru ?_; conv => whnf)
        | (refine br_dec (fun _ => ?_) (fun _ => ?_) <;> first | (exfalso; omega) | contradiction | conv => whnf)
        | (refine br_not ?_; conv => whnf)
        | (refine br_bne (fun _ => ?_) (fun _ => ?_) <;> first | (exfalso; omega) | contradiction | conv => whnf)
        | (refine br_beq (fun _ => ?_) (fun _ => ?_) <;> first | (exfalso; omega) | contradiction | conv => whnf))
      refine Hand.mk [] ?_
      try (conv => whnf)
      refine CallW.n (s_chance hS (by omega) 4 (by omega) (by omega)) ?_
      rintro _ _ ⟨a5, s5, _, rfl, hS5, v5, rfl, rfl, hv5⟩
      try (conv => whnf)
      cases v5
      · try (conv => whnf)
        refine Hand.mk [] ?_
        try (conv => whnf)
        refine CallW.n (s_chance hS5 (by omega) 9 (by omega) (by omega)) ?_
        rintro _ _ ⟨a8, s8, _, rfl, hS8, v8, rfl, rfl, hv8⟩
        try (conv => whnf)
        cases v8
        · try (conv => whnf)
          repeat (refine Pick.mk ?_ ?_ ?_; rotate_left; (focus ((refine wid ?_ ?_ <;> omega))); conv => whnf)
          refine Pick.mk (i - 1, a8, s8, xs ++ [v], max 0 (v + d), d) ⟨⟨by dsimp only; omega, by simp; omega, i6, by dsimp only; omega, by dsimp only; omega, hS8.mono (by dsimp only; omega)⟩, by dsimp only; omega⟩ (LeX.of ?_)
          try (conv => whnf)
          repeat (refine Need.mk ?_ ?_; (focus (first | omega | (simp only [List.length_map, List.length_append, List.length_cons, List.length_nil, List.length_replicate]; omega) | (simp; done))); conv => whnf)
          trivial
        · try (conv => whnf)
          refine Hand.mk [] ?_
          try (conv => whnf)
          refine CallW.n (s_num_ hS8 (by omega)) ?_
          rintro _ _ ⟨a9, s9, _, rfl, hS9, v9, rfl, rfl, hv9⟩
          try (conv => whnf)
          repeat (first
            | (refine Need.mk ?_ ?_; (focus (omega)); conv => whnf)
            | (refine Pick.mk ?_ ?_ ?_; rotate_left; (focus (first | (refine wid ?_ ?_ <;> omega) | (refine tmodn ?_; omega))); conv => whnf))
          refine Pick.mk (i - 1, a9, s9, xs ++ [v], (max 0 v9) % 1152921504606846975, d) ⟨⟨by dsimp only; omega, by simp; omega, i6, by dsimp only; omega, by dsimp only; omega, hS9.mono (by dsimp only; omega)⟩, by dsimp only; omega⟩ (LeX.of ?_)
          try (conv => whnf)
          repeat (refine Need.mk ?_ ?_; (focus (first | omega | (simp only [List.length_map, List.length_append, List.length_cons, List.length_nil, List.length_replicate]; omega) | (simp; done))); conv => whnf)
          trivial
      · try (conv => whnf)
        refine Hand.mk [] ?_
        try (conv => whnf)
        refine CallW.n (s_next hS5 (by omega) 5 (by omega)) ?_
        rintro _ _ ⟨a6, s6, _, rfl, hS6, v6, rfl, rfl, hv6⟩
        try (conv => whnf)
        repeat (refine Pick.mk ?_ ?_ ?_; rotate_left; (focus ((refine wid ?_ ?_ <;> omega))); conv => whnf)
        refine Hand.mk [] ?_
        try (conv => whnf)
        refine CallW.n (s_chance hS6 (by omega) 9 (by omega) (by omega)) ?_
        rintro _ _ ⟨a8, s8, _, rfl, hS8, v8, rfl, rfl, hv8⟩
        try (conv => whnf)
        cases v8
        · try (conv => whnf)
          repeat (refine Pick.mk ?_ ?_ ?_; rotate_left; (focus ((refine wid ?_ ?_ <;> omega))); conv => whnf)
          refine Pick.mk (i - 1, a8, s8, xs ++ [v], max 0 (v + d), (v6 - 2)) ⟨⟨by dsimp only; omega, by simp; omega, i6, by dsimp only; omega, by dsimp only; omega, hS8.mono (by dsimp only; omega)⟩, by dsimp only; omega⟩ (LeX.of ?_)
          try (conv => whnf)
          repeat (refine Need.mk ?_ ?_; (focus (first | omega | (simp only [List.length_map, List.length_append, List.length_cons, List.length_nil, List.length_replicate]; omega) | (simp; done))); conv => whnf)
          trivial
        · try (conv => whnf)
          refine Hand.mk [] ?_
          try (conv => whnf)
          refine CallW.n (s_num_ hS8 (by omega)) ?_
          rintro _ _ ⟨a9, s9, _, rfl, hS9, v9, rfl, rfl, hv9⟩
          try (conv => whnf)
          repeat (first
            | (refine Need.mk ?_ ?_; (focus (omega)); conv => whnf)
            | (refine Pick.mk ?_ ?_ ?_; rotate_left; (focus (first | (refine wid ?_ ?_ <;> omega) | (refine tmodn ?_; omega))); conv => whnf))
          refine Pick.mk (i - 1, a9, s9, xs ++ [v], (max 0 v9) % 1152921504606846975, (v6 - 2)) ⟨⟨by dsimp only; omega, by simp; omega, i6, by dsimp only; omega, by dsimp only; omega, hS9.mono (by dsimp only; omega)⟩, by dsimp only; omega⟩ (LeX.of ?_)
          try (conv => whnf)
          repeat (refine Need.mk ?_ ?_; (focus (first | omega | (simp only [List.length_map, List.length_append, List.length_cons, List.length_nil, List.length_replicate]; omega) | (simp; done))); conv => whnf)
          trivial
end
theorem s_DrawPutInt (code : List UInt8) (hc : code.length ≤ 2 ^ 40) : CallM Try.prog id_spec_DrawPutInt [vY code] [] [] false (DI i64ok) := by
  refine F_spec_DrawPutInt ?_
  try (conv => whnf)
  refine Hand.mk [] ?_
  try (conv => whnf)
  refine CallW.n (s_l01Source code hc) ?_
  rintro _ _ ⟨s, rfl, rfl, hS⟩
  try (conv => whnf)
  refine Hand.mk [] ?_
  try (conv => whnf)
  refine CallW.n (s_num_ hS (by omega)) ?_
  rintro _ _ ⟨a1, s1, _, rfl, hS1, v1, rfl, rfl, hv1⟩
  try (conv => whnf)
  refine Out.mk true [] [] ?_
  try (conv => whnf)
  exact ⟨_, rfl, rfl, hv1⟩
/-- Texts drawn. -/
abbrev DTs : SV → List Row → Prop := fun r Lo => ∃ ts : List (List UInt8), Lo = [.own 1 (ts.map tsD)] ∧ r = .one (.os 0 1 0 ts.length) ∧ ts.length ≤ 5000 ∧ total ts ≤ 50000
theorem s_DrawPutTexts (code : List UInt8) (hc : code.length ≤ 2 ^ 40) : CallM Try.prog id_spec_DrawPutTexts [vY code] [] [] false DTs := by
  refine F_spec_DrawPutTexts ?_
  try (conv => whnf)
  refine Hand.mk [] ?_
  try (conv => whnf)
  refine CallW.n (s_l01Source code hc) ?_
  rintro _ _ ⟨s, rfl, rfl, hS⟩
  try (conv => whnf)
  repeat (refine SeqJ.thru ?_; conv => whnf)
  refine Hand.mk [] ?_
  try (conv => whnf)
  refine CallW.n (s_chance hS (by omega) 60 (by omega) (by omega)) ?_
  rintro _ _ ⟨a1, s1, _, rfl, hS1, v1, rfl, rfl, hv1⟩
  try (conv => whnf)
  cases v1
  · try (conv => whnf)
    refine Hand.mk [] ?_
    try (conv => whnf)
    refine CallW.n (s_l01Texts hS1 (by omega)) ?_
    rintro _ _ ⟨a2, s2, _, rfl, hS2, ts, rfl, rfl, h1, h2⟩
    try (conv => whnf)
    refine Out.mk false [0, 1, 2, 3, 4] [] ?_
    try (conv => whnf)
    exact ⟨ts, rfl, rfl, by omega, by omega⟩
  · try (conv => whnf)
    refine Hand.mk [] ?_
    try (conv => whnf)
    refine CallW.n (s_next hS1 (by omega) 2 (by omega)) ?_
    rintro _ _ ⟨a2, s2, _, rfl, hS2, v2, rfl, rfl, hv2⟩
    try (conv => whnf)
    repeat (first
      | (refine Need.mk ?_ ?_; (focus (omega)); conv => whnf)
      | (refine Pick.mk ?_ ?_ ?_; rotate_left; (focus ((refine wid ?_ ?_ <;> omega))); conv => whnf))
    refine Pick.mk (4096 + v2.toNat) (by omega) ?_
    try (conv => whnf)
    repeat (refine Pick.mk ?_ ?_ ?_; rotate_left; (focus (exact rep_ts _)); conv => whnf)
    refine Out.mk false [0, 1, 2, 3, 4] [] ?_
    try (conv => whnf)
    exact ⟨List.replicate (4096 + v2.toNat) [], rfl, by simp, by simp; omega, by simp [total]⟩
abbrev DNs : SV → List Row → Prop := fun r Lo => ∃ xs : List Int, Lo = [.own 1 (xs.map inD)] ∧ r = .one (.os 0 1 0 xs.length) ∧ xs.length ≤ 60
theorem s_DrawPutRuns (code : List UInt8) (hc : code.length ≤ 2 ^ 40) : CallM Try.prog id_spec_DrawPutRuns [vY code] [] [] false DNs := by
  refine F_spec_DrawPutRuns ?_
  try (conv => whnf)
  refine Hand.mk [] ?_
  try (conv => whnf)
  refine CallW.n (s_l01Source code hc) ?_
  rintro _ _ ⟨s, rfl, rfl, hS⟩
  try (conv => whnf)
  refine Hand.mk [] ?_
  try (conv => whnf)
  refine CallW.n (s_l01Numbers hS (by omega)) ?_
  rintro _ _ ⟨a2, s2, _, rfl, hS2, xs, rfl, rfl, h1, h2⟩
  try (conv => whnf)
  repeat (refine SeqJ.thru ?_; conv => whnf)
  refine Hand.mk [] ?_
  try (conv => whnf)
  refine CallW.n (s_chance hS2 (by omega) 8 (by omega) (by omega)) ?_
  rintro _ _ ⟨a3, s3, _, rfl, hS3, v3, rfl, rfl, hv3⟩
  try (conv => whnf)
  cases v3
  · try (conv => whnf)
    refine Out.mk false [0, 1, 2, 3, 4] [] ?_
    try (conv => whnf)
    exact ⟨xs, rfl, rfl, by omega⟩
  · try (conv => whnf)
    repeat (refine Pick.mk ?_ ?_ ?_; rotate_left; (focus ((simp only [chunks]; rfl))); conv => whnf)
    refine Hand.mk [] ?_
    try (conv => whnf)
    refine CallW.n (s_next hS3 (by omega) 3 (by omega)) ?_
    rintro _ _ ⟨a4, s4, _, rfl, hS4, v4, rfl, rfl, hv4⟩
    try (conv => whnf)
    repeat (refine Need.mk ?_ ?_; (focus (omega)); conv => whnf)
    refine pickI (fun _ => true) rfl (by rw [addN_eq]; show _ < 3; omega) fun x _ => ?_
    try (conv => whnf)
    repeat (first
      | (refine Need.mk ?_ ?_; (focus (omega)); conv => whnf)
      | (refine Pick.mk ?_ ?_ ?_; rotate_left; (focus (first | (simp only [List.length_map, List.length_append, List.length_cons, List.length_nil, List.length_replicate, Nat.zero_add]; rfl) | exact map_snoc inD _ _ | (simp only [chunks]; rfl) | (refine SlOf.full ?_; first | (simp; done) | (simp; omega)))); conv => whnf))
    refine Out.mk false [0, 1, 2, 3, 4] [] ?_
    try (conv => whnf)
    exact ⟨xs ++ [x], by simp, by simp, by simp; omega⟩
end Go.Proofs.Ytoklfidamhigcaa.D
