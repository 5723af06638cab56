/- Words: numbers, bytes and lists as the runs show them. -/
import Derived.Test.YtoklfidamhigcaaED
namespace Go.Proofs.Ytoklfidamhigcaa.D
open Go.RowKit
set_option linter.unusedVariables false
set_option linter.unusedSimpArgs false

abbrev byD (b : UInt8) : List DV := [.sc (.int .u8 b.toNat)]
abbrev inD (x : Int) : List DV := [.sc (.int .i64 x)]
abbrev stD (s : ByteArray) : List DV := [.sc (.string s)]
abbrev boD (b : Bool) : List DV := [.sc (.bool b)]
/-- A slice that is read: of bytes, of numbers, of texts. -/
abbrev vY (l : List UInt8) : SV := .one (.dv (.sl (l.map byD)))
abbrev vN (l : List Int) : SV := .one (.dv (.sl (l.map inD)))
abbrev vT (l : List ByteArray) : SV := .one (.dv (.sl (l.map stD)))
abbrev cI (n : Int) : CV := .dv (.sc (.int .i64 n))
abbrev cB (b : Bool) : CV := .dv (.sc (.bool b))
abbrev cS (s : ByteArray) : CV := .dv (.sc (.string s))
abbrev cY (l : List UInt8) : CV := .dv (.sl (l.map byD))
abbrev cN (l : List Int) : CV := .dv (.sl (l.map inD))
abbrev cT (l : List ByteArray) : CV := .dv (.sl (l.map stD))

theorem wdiv {a b : Int} (h0 : 0 ≤ a) (hb : 0 < b) (h : a ≤ 9223372036854775807) : IntKind.i64.wrap (a.tdiv b) = a / b := by
  rw [Int.tdiv_eq_ediv_of_nonneg h0]
  have h1 : 0 ≤ a / b := Int.ediv_nonneg h0 (by omega)
  have h2 : a / b ≤ a := Int.ediv_le_self b h0
  exact wid (by omega) (by omega)
theorem tmodn {a b : Int} (h0 : 0 ≤ a) : a.tmod b = a % b := Int.tmod_eq_emod_of_nonneg h0
theorem shrn {a b : Int} {n : Nat} (h : b.toNat = n) (hn : n ≤ 64) : a.fdiv (2 ^ (min b.toNat (IntKind.i64).bits)) = a / 2 ^ n := by
  rw [h, Nat.min_eq_left (by simpa [IntKind.bits] using hn), Int.fdiv_eq_ediv_of_nonneg _ (Int.pow_nonneg (by omega))]
theorem shr8 (a : Int) : a.fdiv (2 ^ (min (8 : Int).toNat (IntKind.i64).bits)) = a / 256 := Int.fdiv_eq_ediv_of_nonneg _ (by decide)
theorem shr16 (a : Int) : a.fdiv (2 ^ (min (16 : Int).toNat (IntKind.i64).bits)) = a / 65536 := Int.fdiv_eq_ediv_of_nonneg _ (by decide)
theorem shr24 (a : Int) : a.fdiv (2 ^ (min (24 : Int).toNat (IntKind.i64).bits)) = a / 16777216 := Int.fdiv_eq_ediv_of_nonneg _ (by decide)
theorem shr32 (a : Int) : a.fdiv (2 ^ (min (32 : Int).toNat (IntKind.i64).bits)) = a / 4294967296 := Int.fdiv_eq_ediv_of_nonneg _ (by decide)
theorem wu8 (n : Int) : IntKind.u8.wrap n = n % 256 := by simp [IntKind.wrap, IntKind.bits, IntKind.signed]
theorem wu32 (n : Int) : IntKind.u32.wrap n = n % 4294967296 := by simp [IntKind.wrap, IntKind.bits, IntKind.signed]
theorem wu64 (n : Int) : IntKind.u64.wrap n = n % 18446744073709551616 := by simp [IntKind.wrap, IntKind.bits, IntKind.signed]
theorem byLt (b : UInt8) : (b.toNat : Int) < 256 := by have := b.toNat_lt; omega
theorem wby (b : UInt8) : IntKind.i64.wrap (b.toNat : Int) = b.toNat := wid (by omega) (by have := byLt b; omega)
theorem wby32 (b : UInt8) : IntKind.u32.wrap (b.toNat : Int) = b.toNat := by have := byLt b; rw [wu32]; omega
theorem wby64 (b : UInt8) : IntKind.u64.wrap (b.toNat : Int) = b.toNat := by have := byLt b; rw [wu64]; omega
theorem wu32_i64 {n : Int} (h0 : 0 ≤ n) (h : n < 4294967296) : IntKind.i64.wrap n = n := wid (by omega) (by omega)
/-- A text by its bytes. -/
abbrev bs (t : List UInt8) : ByteArray := ⟨t.toArray⟩
@[simp] theorem size_bs (t : List UInt8) : (ByteArray.mk t.toArray).size = t.length := by simp [ByteArray.size]
theorem bs_all (s : ByteArray) : ∃ t, s = bs t := ⟨s.data.toList, by cases s; simp [bs]⟩
theorem bs_list (t : List UInt8) : (ByteArray.mk t.toArray).toList = t := by rw [ByteArray.toList_eq]
theorem bs_beq (a b : List UInt8) : ((ByteArray.mk a.toArray).toList == (ByteArray.mk b.toArray).toList) = decide (a = b) := by
  rw [bs_list, bs_list]; by_cases h : a = b <;> simp [h]
theorem bs_less (a b : List UInt8) : Op.bytesLess (ByteArray.mk a.toArray).toList (ByteArray.mk b.toArray).toList = Op.bytesLess a b := by rw [bs_list, bs_list]
theorem bs_leq (a b : List UInt8) : (Op.bytesLess (ByteArray.mk a.toArray).toList (ByteArray.mk b.toArray).toList || (ByteArray.mk a.toArray).toList == (ByteArray.mk b.toArray).toList) = (Op.bytesLess a b || decide (a = b)) := by rw [bs_less, bs_beq]
theorem bs_app (a b : List UInt8) : ByteArray.mk a.toArray ++ ByteArray.mk b.toArray = bs (a ++ b) := by
  apply ByteArray.ext; simp [ByteArray.data_append]
theorem bs_get (t : List UInt8) (i : Nat) (h : i < t.length) : 0 ≤ (i : Int) ∧ (ByteArray.mk t.toArray)[(i : Int).toNat]? = some t[i] := by
  refine ⟨by omega, ?_⟩
  have h1 : (i : Int).toNat = i := by omega
  rw [h1, getElem?_pos _ _ (by simpa using h)]
  rfl
theorem bs_int (t : List UInt8) (n : Int) (h0 : 0 ≤ n) (h : n < t.length) : 0 ≤ n ∧ (ByteArray.mk t.toArray)[n.toNat]? = some (t[n.toNat]'(by omega)) := by
  refine ⟨h0, ?_⟩
  rw [getElem?_pos _ _ (by simp; omega)]
  rfl
theorem bs_extract (t : List UInt8) (l h : Nat) : (ByteArray.mk t.toArray).extract l h = bs ((t.take h).drop l) := by
  apply ByteArray.ext
  rw [ByteArray.data_extract]
  show t.toArray.extract l h = _
  rw [List.extract_toArray, List.drop_take]
theorem bs_extract0 (t : List UInt8) (h : Nat) : (ByteArray.mk t.toArray).extract 0 h = bs (t.take h) := by rw [bs_extract]; rfl
theorem bs_extractN (t : List UInt8) (l : Nat) : (ByteArray.mk t.toArray).extract l t.length = bs (t.drop l) := by rw [bs_extract, List.take_length]
theorem sl_map {α : Type} (f : α → List DV) (l : List α) (h m : Nat) : ((l.map f).take h).drop m = ((l.take h).drop m).map f := by simp [List.map_take, List.map_drop]
theorem sl_map0 {α : Type} (f : α → List DV) (l : List α) (h : Nat) : ((l.map f).take h).drop 0 = (l.take h).map f := by simp [List.map_take]
theorem sl_mapN {α : Type} (f : α → List DV) (l : List α) (m : Nat) : ((l.map f).take l.length).drop m = (l.drop m).map f := by simp [List.map_drop, List.take_of_length_le]
theorem bnd {n : Int} {m y : Nat} (h : n = m) (h2 : m ≤ y) : n = (m : Int) ∧ m ≤ y := ⟨h, h2⟩
theorem bnd_sub {a k y : Nat} (h : (@OfNat.ofNat Int k instOfNat) ≤ (a : Int)) (h2 : a ≤ y) : ((a : Int) - (@OfNat.ofNat Int k instOfNat)) = ((a - k : Nat) : Int) ∧ a - k ≤ y := by
  have h : ((k : Nat) : Int) ≤ a := h
  refine ⟨?_, by omega⟩
  show (a : Int) - ((k : Nat) : Int) = _
  omega
theorem bnd_add {a k y : Nat} (h : a + k ≤ y) : ((a : Int) + (k : Int)) = ((a + k : Nat) : Int) ∧ a + k ≤ y := ⟨by omega, h⟩
theorem bnd_subN {a k y : Nat} (h : k ≤ a) (h2 : a - k ≤ y) : ((a : Int) - (k : Int)) = ((a - k : Nat) : Int) ∧ a - k ≤ y := ⟨by omega, h2⟩
theorem bnd_id {a y : Nat} (h : a ≤ y) : (a : Int) = (a : Int) ∧ a ≤ y := ⟨rfl, h⟩
theorem bnd_int {n : Int} {y : Nat} (h0 : 0 ≤ n) (h : n ≤ y) : n = (n.toNat : Int) ∧ n.toNat ≤ y := ⟨by omega, by omega⟩
/-- The byte of a number. -/
def u8 (n : Int) : UInt8 := UInt8.ofNat (n % 256).toNat
theorem u8_val (n : Int) : ((u8 n).toNat : Int) = n % 256 := by
  simp only [u8, UInt8.toNat_ofNat']
  have := Int.emod_nonneg n (show (256 : Int) ≠ 0 by omega)
  have := Int.emod_lt_of_pos n (show (0 : Int) < 256 by omega)
  omega
theorem wbyte (n : Int) : IntKind.u8.wrap n = ((u8 n).toNat : Int) := by rw [wu8, u8_val]

theorem bv_xor (n : Nat) {a b : Nat} (ha : a < 2 ^ n) (hb : b < 2 ^ n) : (BitVec.ofInt n (a : Int) ^^^ BitVec.ofInt n (b : Int)).toNat = a ^^^ b := by
  rw [BitVec.toNat_xor, BitVec.ofInt_natCast, BitVec.ofInt_natCast, BitVec.toNat_ofNat, BitVec.toNat_ofNat, Nat.mod_eq_of_lt ha, Nat.mod_eq_of_lt hb]
theorem bv_and (n : Nat) {a b : Nat} (ha : a < 2 ^ n) (hb : b < 2 ^ n) : (BitVec.ofInt n (a : Int) &&& BitVec.ofInt n (b : Int)).toNat = a &&& b := by
  rw [BitVec.toNat_and, BitVec.ofInt_natCast, BitVec.ofInt_natCast, BitVec.toNat_ofNat, BitVec.toNat_ofNat, Nat.mod_eq_of_lt ha, Nat.mod_eq_of_lt hb]
theorem bv_or (n : Nat) {a b : Nat} (ha : a < 2 ^ n) (hb : b < 2 ^ n) : (BitVec.ofInt n (a : Int) ||| BitVec.ofInt n (b : Int)).toNat = a ||| b := by
  rw [BitVec.toNat_or, BitVec.ofInt_natCast, BitVec.ofInt_natCast, BitVec.toNat_ofNat, BitVec.toNat_ofNat, Nat.mod_eq_of_lt ha, Nat.mod_eq_of_lt hb]
theorem xor_i64 {a b : Nat} (ha : a < 9223372036854775808) (hb : b < 9223372036854775808) : bits .xor .i64 (a : Int) (b : Int) = ((a ^^^ b : Nat) : Int) := by
  have hx : a ^^^ b < 2 ^ 63 := Nat.xor_lt_two_pow (by simpa using ha) (by simpa using hb)
  show IntKind.i64.wrap (((BitVec.ofInt 64 (a : Int) ^^^ BitVec.ofInt 64 (b : Int)).toNat : Nat) : Int) = _
  rw [bv_xor 64 (by omega) (by omega)]
  exact wid (by omega) (by omega)
theorem and_i64 {a b : Nat} (ha : a < 9223372036854775808) (hb : b < 9223372036854775808) : bits .and .i64 (a : Int) (b : Int) = ((a &&& b : Nat) : Int) := by
  have hx : a &&& b < 2 ^ 63 := Nat.and_lt_two_pow _ (by simpa using hb)
  show IntKind.i64.wrap (((BitVec.ofInt 64 (a : Int) &&& BitVec.ofInt 64 (b : Int)).toNat : Nat) : Int) = _
  rw [bv_and 64 (by omega) (by omega)]
  exact wid (by omega) (by omega)
theorem xor_u32 {a b : Nat} (ha : a < 4294967296) (hb : b < 4294967296) : bits .xor .u32 (a : Int) (b : Int) = ((a ^^^ b : Nat) : Int) := by
  have hx : a ^^^ b < 2 ^ 32 := Nat.xor_lt_two_pow (by simpa using ha) (by simpa using hb)
  show IntKind.u32.wrap (((BitVec.ofInt 32 (a : Int) ^^^ BitVec.ofInt 32 (b : Int)).toNat : Nat) : Int) = _
  rw [bv_xor 32 (by omega) (by omega), wu32]
  omega
theorem xor_u8 (a b : UInt8) : bits .xor .u8 (a.toNat : Int) (b.toNat : Int) = ((a ^^^ b).toNat : Int) := by
  have ha := a.toNat_lt
  have hb := b.toNat_lt
  have hx : a.toNat ^^^ b.toNat < 2 ^ 8 := Nat.xor_lt_two_pow (by simpa using ha) (by simpa using hb)
  show IntKind.u8.wrap (((BitVec.ofInt 8 (a.toNat : Int) ^^^ BitVec.ofInt 8 (b.toNat : Int)).toNat : Nat) : Int) = _
  rw [bv_xor 8 (by omega) (by omega), wu8, UInt8.toNat_xor]
  omega

theorem natlit (n : Nat) : (@OfNat.ofNat Int n instOfNat) = (n : Int) := rfl
theorem rep_by (m : Nat) : List.replicate m (zerosD [.zi .u8]) = (List.replicate m (0 : UInt8)).map byD := by rw [List.map_replicate]; rfl
theorem rep_in (m : Nat) : List.replicate m (zerosD [.zi .i64]) = (List.replicate m (0 : Int)).map inD := by rw [List.map_replicate]; rfl
theorem rep_bo (m : Nat) : List.replicate m (zerosD [.zb]) = (List.replicate m false).map boD := by rw [List.map_replicate]; rfl
theorem rep_st (m : Nat) : List.replicate m (zerosD [.zs]) = (List.replicate m (bs [])).map stD := by rw [List.map_replicate]; rfl
theorem flat_by (l : List UInt8) : flatEs (l.map byD) := fun e he d hd => by obtain ⟨b, _, rfl⟩ := List.mem_map.1 he; simp at hd; subst hd; rfl
theorem flat_in (l : List Int) : flatEs (l.map inD) := fun e he d hd => by obtain ⟨b, _, rfl⟩ := List.mem_map.1 he; simp at hd; subst hd; rfl
theorem flat_st (l : List ByteArray) : flatEs (l.map stD) := fun e he d hd => by obtain ⟨b, _, rfl⟩ := List.mem_map.1 he; simp at hd; subst hd; rfl
theorem flat_bo (l : List Bool) : flatEs (l.map boD) := fun e he d hd => by obtain ⟨b, _, rfl⟩ := List.mem_map.1 he; simp at hd; subst hd; rfl
theorem flat_cl {es : List (List DV)} (h : (es.all fun e => e.all flatD) = true) : flatEs es := fun e he d hd => List.all_eq_true.1 (List.all_eq_true.1 h e he) d hd
theorem u8_mod (n : Int) : u8 (n % 256) = u8 n := by simp [u8]
theorem flat_nil : flatEs [] := fun e he => by simp at he
theorem flat_app {a b : List (List DV)} (ha : flatEs a) (hb : flatEs b) : flatEs (a ++ b) := fun e he => (List.mem_append.1 he).elim (ha e) (hb e)
theorem map_app {α : Type} (f : α → List DV) (a b : List α) : a.map f ++ b.map f = (a ++ b).map f := (List.map_append ..).symm
theorem map_snoc {α : Type} (f : α → List DV) (a : List α) (x : α) : a.map f ++ [f x] = (a ++ [x]).map f := by simp
theorem map_one {α : Type} (f : α → List DV) (x : α) : [f x] = [x].map f := rfl
theorem get_by (l : List UInt8) {n m : Nat} (h : n = m) (hm : m < l.length) : (l.map byD)[n]? = some (byD (l.getD m 0)) := by subst h; simp [List.getD, hm]
theorem pick_by (l : List UInt8) {n : Int} {m : Nat} (h : n = m) (hm : m < l.length) : 0 ≤ n ∧ (l.map byD)[n.toNat]? = some (byD (l.getD m 0)) := ⟨by omega, get_by l (by omega) hm⟩
theorem len_cl {es : List (List DV)} {k : Nat} (h : (es.all fun e => Nat.beq e.length k) = true) : ∀ e ∈ es, e.length = k := fun e he => Nat.eq_of_beq_eq_true (List.all_eq_true.1 h e he)
theorem len_app {a b : List (List DV)} {k : Nat} (ha : ∀ e ∈ a, e.length = k) (hb : ∀ e ∈ b, e.length = k) : ∀ e ∈ a ++ b, e.length = k := fun e he => (List.mem_append.1 he).elim (ha e) (hb e)
theorem len_in (l : List Int) : ∀ e ∈ l.map inD, e.length = 1 := all_map _ _ _ fun _ => rfl
theorem len_st (l : List ByteArray) : ∀ e ∈ l.map stD, e.length = 1 := all_map _ _ _ fun _ => rfl
attribute [simp] chunks
theorem len_by (l : List UInt8) : ∀ e ∈ l.map byD, e.length = 1 := all_map _ _ _ fun _ => rfl
theorem set_byN (l : List UInt8) (n : Nat) (c : DV) (b : UInt8) : (l.map byD).set (addN 0 (n : Int).toNat) (splice [c] 0 [.sc (.int .u8 b.toNat)]) = (l.set n b).map byD := by
  rw [addN_eq, List.map_set, show 0 + (n : Int).toNat = n by omega]; rfl
theorem set_byI (l : List UInt8) (n : Int) (c : DV) (b : UInt8) : (l.map byD).set (addN 0 n.toNat) (splice [c] 0 [.sc (.int .u8 b.toNat)]) = (l.set n.toNat b).map byD := by
  rw [addN_eq, List.map_set, Nat.zero_add]; rfl
theorem set_inN (l : List Int) (n : Nat) (c : DV) (b : Int) : (l.map inD).set (addN 0 (n : Int).toNat) (splice [c] 0 [.sc (.int .i64 b)]) = (l.set n b).map inD := by
  rw [addN_eq, List.map_set, show 0 + (n : Int).toNat = n by omega]; rfl
theorem set_inI (l : List Int) (n : Int) (c : DV) (b : Int) : (l.map inD).set (addN 0 n.toNat) (splice [c] 0 [.sc (.int .i64 b)]) = (l.set n.toNat b).map inD := by
  rw [addN_eq, List.map_set, Nat.zero_add]; rfl
theorem set_stN (l : List ByteArray) (n : Nat) (c : DV) (b : ByteArray) : (l.map stD).set (addN 0 (n : Int).toNat) (splice [c] 0 [.sc (.string b)]) = (l.set n b).map stD := by
  rw [addN_eq, List.map_set, show 0 + (n : Int).toNat = n by omega]; rfl
theorem set_boN (l : List Bool) (n : Nat) (c : DV) (b : Bool) : (l.map boD).set (addN 0 (n : Int).toNat) (splice [c] 0 [.sc (.bool b)]) = (l.set n b).map boD := by
  rw [addN_eq, List.map_set, show 0 + (n : Int).toNat = n by omega]; rfl
theorem set_boI (l : List Bool) (n : Int) (c : DV) (b : Bool) : (l.map boD).set (addN 0 n.toNat) (splice [c] 0 [.sc (.bool b)]) = (l.set n.toNat b).map boD := by
  rw [addN_eq, List.map_set, Nat.zero_add]; rfl
theorem get_mapN {α : Type} (f : α → List DV) (l : List α) (n : Nat) (h : n < l.length) : (l.map f)[addN 0 (n : Int).toNat]? = some (f l[n]) := by
  rw [addN_eq, show 0 + (n : Int).toNat = n by omega, List.getElem?_map, List.getElem?_eq_getElem h]; rfl
theorem get_mapI {α : Type} (f : α → List DV) (l : List α) (n : Int) (h0 : 0 ≤ n) (h : n < l.length) : (l.map f)[addN 0 n.toNat]? = some (f (l[n.toNat]'(by omega))) := by
  rw [addN_eq, Nat.zero_add, List.getElem?_map, List.getElem?_eq_getElem (by omega)]; rfl
/-- Made over up to a place. -/
def over {α : Type} (m t : List α) (j : Nat) : List α := m.take j ++ t.drop j
theorem over_set {α : Type} {m t : List α} (h : m.length = t.length) {j : Nat} (hj : j < t.length) : (over m t j).set j (m[j]'(by omega)) = over m t (j + 1) := by
  have h1 : (m.take j).length = j := by simp; omega
  rw [over, List.set_append, if_neg (by omega), h1, Nat.sub_self, List.drop_eq_getElem_cons hj]
  simp only [List.set_cons_zero, over]
  rw [List.take_succ_eq_append_getElem (show j < m.length by omega), List.append_assoc]; rfl
theorem over_end {α : Type} {m t : List α} (h : m.length = t.length) {j : Nat} (hj : t.length ≤ j) : over m t j = m := by
  rw [over, List.take_of_length_le (by omega), List.drop_eq_nil_of_le hj]; simp
theorem over_get {α : Type} {m t : List α} (h : m.length = t.length) {j : Nat} (hj : j < t.length) : (over m t j)[j]? = some t[j] := by
  rw [over, List.getElem?_append_right (by simp; omega)]
  simp [h, Nat.min_eq_left (Nat.le_of_lt hj), hj]
theorem SlOf.pre {α : Type} (f : α → List DV) (l : List α) {k : Nat} (h : k ≤ l.length) : SlOf (l.map f) 0 k ((l.take k).map f) := ⟨by simp; omega, by simp [List.map_take]⟩
/-- Texts by their bytes. -/
abbrev tsD (t : List UInt8) : List DV := [.sc (.string (bs t))]
abbrev cTs (l : List (List UInt8)) : CV := .dv (.sl (l.map tsD))
abbrev vTs (l : List (List UInt8)) : SV := .one (cTs l)
theorem flat_ts (l : List (List UInt8)) : flatEs (l.map tsD) := fun e he d hd => by obtain ⟨b, _, rfl⟩ := List.mem_map.1 he; simp at hd; subst hd; rfl
theorem len_ts (l : List (List UInt8)) : ∀ e ∈ l.map tsD, e.length = 1 := all_map _ _ _ fun _ => rfl
theorem set_tsN (l : List (List UInt8)) (n : Nat) (c : DV) (b : List UInt8) : (l.map tsD).set (addN 0 (n : Int).toNat) (splice [c] 0 [.sc (.string (bs b))]) = (l.set n b).map tsD := by
  rw [addN_eq, List.map_set, show 0 + (n : Int).toNat = n by omega]; rfl
theorem set_tsI (l : List (List UInt8)) (n : Int) (c : DV) (b : List UInt8) : (l.map tsD).set (addN 0 n.toNat) (splice [c] 0 [.sc (.string (bs b))]) = (l.set n.toNat b).map tsD := by
  rw [addN_eq, List.map_set, Nat.zero_add]; rfl
theorem rep_ts (m : Nat) : List.replicate m (zerosD [.zs]) = (List.replicate m ([] : List UInt8)).map tsD := by rw [List.map_replicate]; rfl
theorem bs_ne (a b : List UInt8) : (!((ByteArray.mk a.toArray).toList == (ByteArray.mk b.toArray).toList)) = !decide (a = b) := by rw [bs_beq]
end Go.Proofs.Ytoklfidamhigcaa.D
