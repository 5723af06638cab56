/- The heads of the functions: the table of types, plans of regions that draw their order, and a contract out of the code. Printed by wip/tools/gen.py. -/
import Derived.Test.YtpdjehnlejjfmaaProg
import Derived.KernelRfl
import Derived.Test.YtpdjehnlejjfmaaJ5
namespace Go.Proofs.Ytpdjehnlejjfmaa.D
open Go.RowKit
set_option maxRecDepth 100000
def tyList : List (TypeId × TyI) := [(3, ⟨.int .i64, 1, 8, [.zi .i64], false⟩),
  (4, ⟨.bool, 1, 1, [.zb], false⟩),
  (5, ⟨.int .u8, 1, 1, [.zi .u8], false⟩),
  (9, ⟨.string, 1, 16, [.zs], false⟩),
  (22, ⟨.slice 92, 1, 24, [.zl], false⟩),
  (24, ⟨.slice 5, 1, 24, [.zl], false⟩),
  (27, ⟨.slice 56, 1, 24, [.zl], false⟩),
  (41, ⟨.slice 3, 1, 24, [.zl], false⟩),
  (43, ⟨.struct [(0, 41)], 1, 24, [.zl], false⟩),
  (54, ⟨.struct [(0, 3), (1, 3)], 2, 16, [.zi .i64, .zi .i64], true⟩),
  (56, ⟨.struct [(0, 3), (1, 3), (2, 3), (3, 43), (4, 3), (5, 3), (6, 3), (7, 3), (8, 54), (10, 9), (11, 9)], 12, 128, [.zi .i64, .zi .i64, .zi .i64, .zl, .zi .i64, .zi .i64, .zi .i64, .zi .i64, .zi .i64, .zi .i64, .zs, .zs], false⟩),
  (66, ⟨.slice 68, 1, 24, [.zl], false⟩),
  (68, ⟨.struct [(0, 3), (1, 3), (2, 3), (3, 9)], 4, 40, [.zi .i64, .zi .i64, .zi .i64, .zs], true⟩),
  (69, ⟨.slice 73, 1, 24, [.zl], false⟩),
  (73, ⟨.struct [(0, 3), (1, 3), (2, 3), (3, 9)], 4, 40, [.zi .i64, .zi .i64, .zi .i64, .zs], true⟩),
  (74, ⟨.slice 175, 1, 24, [.zl], false⟩),
  (76, ⟨.struct [(0, 43), (1, 74)], 2, 48, [.zl, .zl], false⟩),
  (83, ⟨.struct [(0, 43), (1, 74)], 2, 48, [.zl, .zl], false⟩),
  (89, ⟨.struct [(0, 41)], 1, 24, [.zl], false⟩),
  (90, ⟨.struct [(0, 3), (1, 3)], 2, 16, [.zi .i64, .zi .i64], true⟩),
  (92, ⟨.struct [(0, 3), (1, 3), (2, 3), (3, 89), (4, 3), (5, 3), (6, 3), (7, 3), (8, 90), (10, 9), (11, 9)], 12, 128, [.zi .i64, .zi .i64, .zi .i64, .zl, .zi .i64, .zi .i64, .zi .i64, .zi .i64, .zi .i64, .zi .i64, .zs, .zs], false⟩),
  (101, ⟨.ptr 110, 1, 8, [.zp], false⟩),
  (105, ⟨.ptr 193, 1, 8, [.zp], false⟩),
  (107, ⟨.array 16 27, 16, 384, [.zl, .zl, .zl, .zl, .zl, .zl, .zl, .zl, .zl, .zl, .zl, .zl, .zl, .zl, .zl, .zl], false⟩),
  (108, ⟨.array 101 3, 101, 808, [.zi .i64, .zi .i64, .zi .i64, .zi .i64, .zi .i64, .zi .i64, .zi .i64, .zi .i64, .zi .i64, .zi .i64, .zi .i64, .zi .i64, .zi .i64, .zi .i64, .zi .i64, .zi .i64, .zi .i64, .zi .i64, .zi .i64, .zi .i64, .zi .i64, .zi .i64, .zi .i64, .zi .i64, .zi .i64, .zi .i64, .zi .i64, .zi .i64, .zi .i64, .zi .i64, .zi .i64, .zi .i64, .zi .i64, .zi .i64, .zi .i64, .zi .i64, .zi .i64, .zi .i64, .zi .i64, .zi .i64, .zi .i64, .zi .i64, .zi .i64, .zi .i64, .zi .i64, .zi .i64, .zi .i64, .zi .i64, .zi .i64, .zi .i64, .zi .i64, .zi .i64, .zi .i64, .zi .i64, .zi .i64, .zi .i64, .zi .i64, .zi .i64, .zi .i64, .zi .i64, .zi .i64, .zi .i64, .zi .i64, .zi .i64, .zi .i64, .zi .i64, .zi .i64, .zi .i64, .zi .i64, .zi .i64, .zi .i64, .zi .i64, .zi .i64, .zi .i64, .zi .i64, .zi .i64, .zi .i64, .zi .i64, .zi .i64, .zi .i64, .zi .i64, .zi .i64, .zi .i64, .zi .i64, .zi .i64, .zi .i64, .zi .i64, .zi .i64, .zi .i64, .zi .i64, .zi .i64, .zi .i64, .zi .i64, .zi .i64, .zi .i64, .zi .i64, .zi .i64, .zi .i64, .zi .i64, .zi .i64, .zi .i64], false⟩),
  (110, ⟨.struct [(0, 107), (16, 108), (117, 3), (118, 54)], 120, 1216, [.zl, .zl, .zl, .zl, .zl, .zl, .zl, .zl, .zl, .zl, .zl, .zl, .zl, .zl, .zl, .zl, .zi .i64, .zi .i64, .zi .i64, .zi .i64, .zi .i64, .zi .i64, .zi .i64, .zi .i64, .zi .i64, .zi .i64, .zi .i64, .zi .i64, .zi .i64, .zi .i64, .zi .i64, .zi .i64, .zi .i64, .zi .i64, .zi .i64, .zi .i64, .zi .i64, .zi .i64, .zi .i64, .zi .i64, .zi .i64, .zi .i64, .zi .i64, .zi .i64, .zi .i64, .zi .i64, .zi .i64, .zi .i64, .zi .i64, .zi .i64, .zi .i64, .zi .i64, .zi .i64, .zi .i64, .zi .i64, .zi .i64, .zi .i64, .zi .i64, .zi .i64, .zi .i64, .zi .i64, .zi .i64, .zi .i64, .zi .i64, .zi .i64, .zi .i64, .zi .i64, .zi .i64, .zi .i64, .zi .i64, .zi .i64, .zi .i64, .zi .i64, .zi .i64, .zi .i64, .zi .i64, .zi .i64, .zi .i64, .zi .i64, .zi .i64, .zi .i64, .zi .i64, .zi .i64, .zi .i64, .zi .i64, .zi .i64, .zi .i64, .zi .i64, .zi .i64, .zi .i64, .zi .i64, .zi .i64, .zi .i64, .zi .i64, .zi .i64, .zi .i64, .zi .i64, .zi .i64, .zi .i64, .zi .i64, .zi .i64, .zi .i64, .zi .i64, .zi .i64, .zi .i64, .zi .i64, .zi .i64, .zi .i64, .zi .i64, .zi .i64, .zi .i64, .zi .i64, .zi .i64, .zi .i64, .zi .i64, .zi .i64, .zi .i64, .zi .i64, .zi .i64, .zi .i64], false⟩),
  (113, ⟨.ptr 115, 1, 8, [.zp], false⟩),
  (115, ⟨.struct [(0, 24), (1, 3), (2, 4)], 3, 40, [.zl, .zi .i64, .zb], false⟩),
  (116, ⟨.slice 41, 1, 24, [.zl], false⟩),
  (118, ⟨.slice 9, 1, 24, [.zl], false⟩),
  (121, ⟨.int .u32, 1, 4, [.zi .u32], false⟩),
  (124, ⟨.struct [(0, 24), (1, 3), (2, 4)], 3, 40, [.zl, .zi .i64, .zb], false⟩),
  (125, ⟨.array 25 41, 25, 600, [.zl, .zl, .zl, .zl, .zl, .zl, .zl, .zl, .zl, .zl, .zl, .zl, .zl, .zl, .zl, .zl, .zl, .zl, .zl, .zl, .zl, .zl, .zl, .zl, .zl], false⟩),
  (127, ⟨.ptr 198, 1, 8, [.zp], false⟩),
  (149, ⟨.struct [(0, 3), (1, 3)], 2, 16, [.zi .i64, .zi .i64], true⟩),
  (153, ⟨.slice 27, 1, 24, [.zl], false⟩),
  (160, ⟨.ptr 166, 1, 8, [.zp], false⟩),
  (161, ⟨.array 16 4, 16, 16, [.zb, .zb, .zb, .zb, .zb, .zb, .zb, .zb, .zb, .zb, .zb, .zb, .zb, .zb, .zb, .zb], false⟩),
  (162, ⟨.slice 161, 1, 24, [.zl], false⟩),
  (163, ⟨.slice 4, 1, 24, [.zl], false⟩),
  (164, ⟨.slice 210, 1, 24, [.zl], false⟩),
  (166, ⟨.struct [(0, 161), (16, 3), (17, 162), (18, 163), (19, 163), (20, 164)], 21, 120, [.zb, .zb, .zb, .zb, .zb, .zb, .zb, .zb, .zb, .zb, .zb, .zb, .zb, .zb, .zb, .zb, .zi .i64, .zl, .zl, .zl, .zl], false⟩),
  (175, ⟨.struct [(0, 54), (2, 9)], 3, 32, [.zi .i64, .zi .i64, .zs], true⟩),
  (185, ⟨.array 9 3, 9, 72, [.zi .i64, .zi .i64, .zi .i64, .zi .i64, .zi .i64, .zi .i64, .zi .i64, .zi .i64, .zi .i64], false⟩),
  (193, ⟨.array 9 41, 9, 216, [.zl, .zl, .zl, .zl, .zl, .zl, .zl, .zl, .zl], false⟩),
  (195, ⟨.int .u64, 1, 8, [.zi .u64], false⟩),
  (196, ⟨.ptr 124, 1, 8, [.zp], false⟩),
  (198, ⟨.struct [(0, 24), (1, 3), (2, 3)], 3, 40, [.zl, .zi .i64, .zi .i64], false⟩),
  (210, ⟨.struct [(0, 3), (1, 9)], 2, 24, [.zi .i64, .zs], true⟩),
  (212, ⟨.slice 76, 1, 24, [.zl], false⟩),
  (218, ⟨.int .u64, 1, 8, [.zi .u64], false⟩),
  (220, ⟨.slice 54, 1, 24, [.zl], false⟩)]
def lk : List (TypeId × TyI) → TypeId → Option TyI
  | [], _ => none
  | (a, i) :: r, t => match Nat.beq t a with | true => some i | false => lk r t
theorem lk_ok (P : Program) : ∀ (l : List (TypeId × TyI)), l.all (fun x => tyOk P x.1 x.2) = true → ∀ t i, lk l t = some i → TyFacts P t i
  | [], _, _, _, h => by simp [lk] at h
  | (a, j) :: r, hl, t, i, h => by
    simp only [List.all_cons, Bool.and_eq_true] at hl
    simp only [lk] at h
    split at h
    · rename_i e; have := Nat.eq_of_beq_eq_true e; subst this; simp at h; subst h; exact tyOk_facts hl.1
    · exact lk_ok P r hl.2 t i h
def T : Tab Try.prog := ⟨lk tyList, by kernel_rfl, lk_ok Try.prog tyList (by kernel_rfl)⟩
def bodyOf (f : Func) : Code := match f.body with | some c => c | none => .skip
def plk (l : List (Nat × PS)) (i : Nat) : Option PS := match l with | [] => none | (j, p) :: r => match Nat.beq i j with | true => some p | false => plk r i
abbrev id_laws_FnExactLogBytes : FuncId := 3
def pl_laws_FnExactLogBytes : Nat → Option PS := plk []
theorem F_laws_FnExactLogBytes {args : List SV} {Li : List Row} {mv : List Nat} {cl : Bool} {Post : SV → List Row → Prop} (h : wpE Try.prog (lk tyList) pl_laws_FnExactLogBytes (bodyOf Try.f3) ⟨argT args, Lof Li, []⟩ (retE (lk tyList) Try.f3.results.toList Li.length mv cl Post)) (hN : args.length ≤ Try.f3.ntmps := by simp [Try.ntmps3]) :
    CallM Try.prog id_laws_FnExactLogBytes args Li mv cl Post := CallM.ofE T pl_laws_FnExactLogBytes Try.func3 (by kernel_rfl) rfl (by kernel_rfl) (by kernel_rfl) hN h
abbrev id_laws_FnExactTreeSum : FuncId := 4
def pl_laws_FnExactTreeSum : Nat → Option PS := plk []
theorem F_laws_FnExactTreeSum {args : List SV} {Li : List Row} {mv : List Nat} {cl : Bool} {Post : SV → List Row → Prop} (h : wpE Try.prog (lk tyList) pl_laws_FnExactTreeSum (bodyOf Try.f4) ⟨argT args, Lof Li, []⟩ (retE (lk tyList) Try.f4.results.toList Li.length mv cl Post)) (hN : args.length ≤ Try.f4.ntmps := by simp [Try.ntmps4]) :
    CallM Try.prog id_laws_FnExactTreeSum args Li mv cl Post := CallM.ofE T pl_laws_FnExactTreeSum Try.func4 (by kernel_rfl) rfl (by kernel_rfl) (by kernel_rfl) hN h
abbrev id_laws_FnExactReadLog : FuncId := 5
def pl_laws_FnExactReadLog : Nat → Option PS := plk []
theorem F_laws_FnExactReadLog {args : List SV} {Li : List Row} {mv : List Nat} {cl : Bool} {Post : SV → List Row → Prop} (h : wpE Try.prog (lk tyList) pl_laws_FnExactReadLog (bodyOf Try.f5) ⟨argT args, Lof Li, []⟩ (retE (lk tyList) Try.f5.results.toList Li.length mv cl Post)) (hN : args.length ≤ Try.f5.ntmps := by simp [Try.ntmps5]) :
    CallM Try.prog id_laws_FnExactReadLog args Li mv cl Post := CallM.ofE T pl_laws_FnExactReadLog Try.func5 (by kernel_rfl) rfl (by kernel_rfl) (by kernel_rfl) hN h
abbrev id_laws_FnSince : FuncId := 6
def pl_laws_FnSince : Nat → Option PS := plk [(16, .v 0 (.v 1 (.v 2 (.v 3 (.v 4 (.v 5 (.v 6 (.v 7 (.v 8 (.v 9 (.v 10 (.v 11 (.v 12 (.v 13 (.x 14 [] (.done))))))))))))))))]
theorem F_laws_FnSince {args : List SV} {Li : List Row} {mv : List Nat} {cl : Bool} {Post : SV → List Row → Prop} (h : wpE Try.prog (lk tyList) pl_laws_FnSince (bodyOf Try.f6) ⟨argT args, Lof Li, []⟩ (retE (lk tyList) Try.f6.results.toList Li.length mv cl Post)) (hN : args.length ≤ Try.f6.ntmps := by simp [Try.ntmps6]) :
    CallM Try.prog id_laws_FnSince args Li mv cl Post := CallM.ofE T pl_laws_FnSince Try.func6 (by kernel_rfl) rfl (by kernel_rfl) (by kernel_rfl) hN h
abbrev id_laws_FnMerge : FuncId := 7
def pl_laws_FnMerge : Nat → Option PS := plk []
theorem F_laws_FnMerge {args : List SV} {Li : List Row} {mv : List Nat} {cl : Bool} {Post : SV → List Row → Prop} (h : wpE Try.prog (lk tyList) pl_laws_FnMerge (bodyOf Try.f7) ⟨argT args, Lof Li, []⟩ (retE (lk tyList) Try.f7.results.toList Li.length mv cl Post)) (hN : args.length ≤ Try.f7.ntmps := by simp [Try.ntmps7]) :
    CallM Try.prog id_laws_FnMerge args Li mv cl Post := CallM.ofE T pl_laws_FnMerge Try.func7 (by kernel_rfl) rfl (by kernel_rfl) (by kernel_rfl) hN h
abbrev id_laws_FnAgain : FuncId := 8
def pl_laws_FnAgain : Nat → Option PS := plk []
theorem F_laws_FnAgain {args : List SV} {Li : List Row} {mv : List Nat} {cl : Bool} {Post : SV → List Row → Prop} (h : wpE Try.prog (lk tyList) pl_laws_FnAgain (bodyOf Try.f8) ⟨argT args, Lof Li, []⟩ (retE (lk tyList) Try.f8.results.toList Li.length mv cl Post)) (hN : args.length ≤ Try.f8.ntmps := by simp [Try.ntmps8]) :
    CallM Try.prog id_laws_FnAgain args Li mv cl Post := CallM.ofE T pl_laws_FnAgain Try.func8 (by kernel_rfl) rfl (by kernel_rfl) (by kernel_rfl) hN h
abbrev id_laws_FnLog : FuncId := 9
def pl_laws_FnLog : Nat → Option PS := plk []
theorem F_laws_FnLog {args : List SV} {Li : List Row} {mv : List Nat} {cl : Bool} {Post : SV → List Row → Prop} (h : wpE Try.prog (lk tyList) pl_laws_FnLog (bodyOf Try.f9) ⟨argT args, Lof Li, []⟩ (retE (lk tyList) Try.f9.results.toList Li.length mv cl Post)) (hN : args.length ≤ Try.f9.ntmps := by simp [Try.ntmps9]) :
    CallM Try.prog id_laws_FnLog args Li mv cl Post := CallM.ofE T pl_laws_FnLog Try.func9 (by kernel_rfl) rfl (by kernel_rfl) (by kernel_rfl) hN h
abbrev id_laws_FnExactReadRecords : FuncId := 10
def pl_laws_FnExactReadRecords : Nat → Option PS := plk []
theorem F_laws_FnExactReadRecords {args : List SV} {Li : List Row} {mv : List Nat} {cl : Bool} {Post : SV → List Row → Prop} (h : wpE Try.prog (lk tyList) pl_laws_FnExactReadRecords (bodyOf Try.f10) ⟨argT args, Lof Li, []⟩ (retE (lk tyList) Try.f10.results.toList Li.length mv cl Post)) (hN : args.length ≤ Try.f10.ntmps := by simp [Try.ntmps10]) :
    CallM Try.prog id_laws_FnExactReadRecords args Li mv cl Post := CallM.ofE T pl_laws_FnExactReadRecords Try.func10 (by kernel_rfl) rfl (by kernel_rfl) (by kernel_rfl) hN h
abbrev id_laws_FnRecords : FuncId := 11
def pl_laws_FnRecords : Nat → Option PS := plk []
theorem F_laws_FnRecords {args : List SV} {Li : List Row} {mv : List Nat} {cl : Bool} {Post : SV → List Row → Prop} (h : wpE Try.prog (lk tyList) pl_laws_FnRecords (bodyOf Try.f11) ⟨argT args, Lof Li, []⟩ (retE (lk tyList) Try.f11.results.toList Li.length mv cl Post)) (hN : args.length ≤ Try.f11.ntmps := by simp [Try.ntmps11]) :
    CallM Try.prog id_laws_FnRecords args Li mv cl Post := CallM.ofE T pl_laws_FnRecords Try.func11 (by kernel_rfl) rfl (by kernel_rfl) (by kernel_rfl) hN h
abbrev id_laws_FnThief : FuncId := 12
def pl_laws_FnThief : Nat → Option PS := plk []
theorem F_laws_FnThief {args : List SV} {Li : List Row} {mv : List Nat} {cl : Bool} {Post : SV → List Row → Prop} (h : wpE Try.prog (lk tyList) pl_laws_FnThief (bodyOf Try.f12) ⟨argT args, Lof Li, []⟩ (retE (lk tyList) Try.f12.results.toList Li.length mv cl Post)) (hN : args.length ≤ Try.f12.ntmps := by simp [Try.ntmps12]) :
    CallM Try.prog id_laws_FnThief args Li mv cl Post := CallM.ofE T pl_laws_FnThief Try.func12 (by kernel_rfl) rfl (by kernel_rfl) (by kernel_rfl) hN h
abbrev id_laws_FnValues : FuncId := 13
def pl_laws_FnValues : Nat → Option PS := plk []
theorem F_laws_FnValues {args : List SV} {Li : List Row} {mv : List Nat} {cl : Bool} {Post : SV → List Row → Prop} (h : wpE Try.prog (lk tyList) pl_laws_FnValues (bodyOf Try.f13) ⟨argT args, Lof Li, []⟩ (retE (lk tyList) Try.f13.results.toList Li.length mv cl Post)) (hN : args.length ≤ Try.f13.ntmps := by simp [Try.ntmps13]) :
    CallM Try.prog id_laws_FnValues args Li mv cl Post := CallM.ofE T pl_laws_FnValues Try.func13 (by kernel_rfl) rfl (by kernel_rfl) (by kernel_rfl) hN h
abbrev id_laws_szOpS : FuncId := 14
def pl_laws_szOpS : Nat → Option PS := plk []
theorem F_laws_szOpS {args : List SV} {Li : List Row} {mv : List Nat} {cl : Bool} {Post : SV → List Row → Prop} (h : wpE Try.prog (lk tyList) pl_laws_szOpS (bodyOf Try.f14) ⟨argT args, Lof Li, []⟩ (retE (lk tyList) Try.f14.results.toList Li.length mv cl Post)) (hN : args.length ≤ Try.f14.ntmps := by simp [Try.ntmps14]) :
    CallM Try.prog id_laws_szOpS args Li mv cl Post := CallM.ofE T pl_laws_szOpS Try.func14 (by kernel_rfl) rfl (by kernel_rfl) (by kernel_rfl) hN h
abbrev id_spec_LogBytes : FuncId := 15
def pl_spec_LogBytes : Nat → Option PS := plk []
theorem F_spec_LogBytes {args : List SV} {Li : List Row} {mv : List Nat} {cl : Bool} {Post : SV → List Row → Prop} (h : wpE Try.prog (lk tyList) pl_spec_LogBytes (bodyOf Try.f15) ⟨argT args, Lof Li, []⟩ (retE (lk tyList) Try.f15.results.toList Li.length mv cl Post)) (hN : args.length ≤ Try.f15.ntmps := by simp [Try.ntmps15]) :
    CallM Try.prog id_spec_LogBytes args Li mv cl Post := CallM.ofE T pl_spec_LogBytes Try.func15 (by kernel_rfl) rfl (by kernel_rfl) (by kernel_rfl) hN h
abbrev id_laws_toOpS : FuncId := 16
def pl_laws_toOpS : Nat → Option PS := plk []
theorem F_laws_toOpS {args : List SV} {Li : List Row} {mv : List Nat} {cl : Bool} {Post : SV → List Row → Prop} (h : wpE Try.prog (lk tyList) pl_laws_toOpS (bodyOf Try.f16) ⟨argT args, Lof Li, []⟩ (retE (lk tyList) Try.f16.results.toList Li.length mv cl Post)) (hN : args.length ≤ Try.f16.ntmps := by simp [Try.ntmps16]) :
    CallM Try.prog id_laws_toOpS args Li mv cl Post := CallM.ofE T pl_laws_toOpS Try.func16 (by kernel_rfl) rfl (by kernel_rfl) (by kernel_rfl) hN h
abbrev id_impl_LogBytes : FuncId := 17
def pl_impl_LogBytes : Nat → Option PS := plk []
theorem F_impl_LogBytes {args : List SV} {Li : List Row} {mv : List Nat} {cl : Bool} {Post : SV → List Row → Prop} (h : wpE Try.prog (lk tyList) pl_impl_LogBytes (bodyOf Try.f17) ⟨argT args, Lof Li, []⟩ (retE (lk tyList) Try.f17.results.toList Li.length mv cl Post)) (hN : args.length ≤ Try.f17.ntmps := by simp [Try.ntmps17]) :
    CallM Try.prog id_impl_LogBytes args Li mv cl Post := CallM.ofE T pl_impl_LogBytes Try.func17 (by kernel_rfl) rfl (by kernel_rfl) (by kernel_rfl) hN h
abbrev id_laws_eqByteS : FuncId := 18
def pl_laws_eqByteS : Nat → Option PS := plk [(6, .v 0 (.v 1 (.v 2 (.v 3 (.v 4 (.v 5 (.v 6 (.v 7 (.v 8 (.done))))))))))]
theorem F_laws_eqByteS {args : List SV} {Li : List Row} {mv : List Nat} {cl : Bool} {Post : SV → List Row → Prop} (h : wpE Try.prog (lk tyList) pl_laws_eqByteS (bodyOf Try.f18) ⟨argT args, Lof Li, []⟩ (retE (lk tyList) Try.f18.results.toList Li.length mv cl Post)) (hN : args.length ≤ Try.f18.ntmps := by simp [Try.ntmps18]) :
    CallM Try.prog id_laws_eqByteS args Li mv cl Post := CallM.ofE T pl_laws_eqByteS Try.func18 (by kernel_rfl) rfl (by kernel_rfl) (by kernel_rfl) hN h
abbrev id_laws_eqOpS : FuncId := 19
def pl_laws_eqOpS : Nat → Option PS := plk [(6, .v 0 (.v 1 (.v 2 (.v 3 (.v 4 (.v 5 (.v 6 (.v 7 (.x 8 [] (.v 9 (.done)))))))))))]
theorem F_laws_eqOpS {args : List SV} {Li : List Row} {mv : List Nat} {cl : Bool} {Post : SV → List Row → Prop} (h : wpE Try.prog (lk tyList) pl_laws_eqOpS (bodyOf Try.f19) ⟨argT args, Lof Li, []⟩ (retE (lk tyList) Try.f19.results.toList Li.length mv cl Post)) (hN : args.length ≤ Try.f19.ntmps := by simp [Try.ntmps19]) :
    CallM Try.prog id_laws_eqOpS args Li mv cl Post := CallM.ofE T pl_laws_eqOpS Try.func19 (by kernel_rfl) rfl (by kernel_rfl) (by kernel_rfl) hN h
abbrev id_laws_markOpS : FuncId := 20
def pl_laws_markOpS : Nat → Option PS := plk []
theorem F_laws_markOpS {args : List SV} {Li : List Row} {mv : List Nat} {cl : Bool} {Post : SV → List Row → Prop} (h : wpE Try.prog (lk tyList) pl_laws_markOpS (bodyOf Try.f20) ⟨argT args, Lof Li, []⟩ (retE (lk tyList) Try.f20.results.toList Li.length mv cl Post)) (hN : args.length ≤ Try.f20.ntmps := by simp [Try.ntmps20]) :
    CallM Try.prog id_laws_markOpS args Li mv cl Post := CallM.ofE T pl_laws_markOpS Try.func20 (by kernel_rfl) rfl (by kernel_rfl) (by kernel_rfl) hN h
abbrev id_laws_markByteS : FuncId := 21
def pl_laws_markByteS : Nat → Option PS := plk []
theorem F_laws_markByteS {args : List SV} {Li : List Row} {mv : List Nat} {cl : Bool} {Post : SV → List Row → Prop} (h : wpE Try.prog (lk tyList) pl_laws_markByteS (bodyOf Try.f21) ⟨argT args, Lof Li, []⟩ (retE (lk tyList) Try.f21.results.toList Li.length mv cl Post)) (hN : args.length ≤ Try.f21.ntmps := by simp [Try.ntmps21]) :
    CallM Try.prog id_laws_markByteS args Li mv cl Post := CallM.ofE T pl_laws_markByteS Try.func21 (by kernel_rfl) rfl (by kernel_rfl) (by kernel_rfl) hN h
abbrev id_laws_heldByteS : FuncId := 22
def pl_laws_heldByteS : Nat → Option PS := plk []
theorem F_laws_heldByteS {args : List SV} {Li : List Row} {mv : List Nat} {cl : Bool} {Post : SV → List Row → Prop} (h : wpE Try.prog (lk tyList) pl_laws_heldByteS (bodyOf Try.f22) ⟨argT args, Lof Li, []⟩ (retE (lk tyList) Try.f22.results.toList Li.length mv cl Post)) (hN : args.length ≤ Try.f22.ntmps := by simp [Try.ntmps22]) :
    CallM Try.prog id_laws_heldByteS args Li mv cl Post := CallM.ofE T pl_laws_heldByteS Try.func22 (by kernel_rfl) rfl (by kernel_rfl) (by kernel_rfl) hN h
abbrev id_spec_TreeSum : FuncId := 23
def pl_spec_TreeSum : Nat → Option PS := plk []
theorem F_spec_TreeSum {args : List SV} {Li : List Row} {mv : List Nat} {cl : Bool} {Post : SV → List Row → Prop} (h : wpE Try.prog (lk tyList) pl_spec_TreeSum (bodyOf Try.f23) ⟨argT args, Lof Li, []⟩ (retE (lk tyList) Try.f23.results.toList Li.length mv cl Post)) (hN : args.length ≤ Try.f23.ntmps := by simp [Try.ntmps23]) :
    CallM Try.prog id_spec_TreeSum args Li mv cl Post := CallM.ofE T pl_spec_TreeSum Try.func23 (by kernel_rfl) rfl (by kernel_rfl) (by kernel_rfl) hN h
abbrev id_impl_TreeSum : FuncId := 24
def pl_impl_TreeSum : Nat → Option PS := plk []
theorem F_impl_TreeSum {args : List SV} {Li : List Row} {mv : List Nat} {cl : Bool} {Post : SV → List Row → Prop} (h : wpE Try.prog (lk tyList) pl_impl_TreeSum (bodyOf Try.f24) ⟨argT args, Lof Li, []⟩ (retE (lk tyList) Try.f24.results.toList Li.length mv cl Post)) (hN : args.length ≤ Try.f24.ntmps := by simp [Try.ntmps24]) :
    CallM Try.prog id_impl_TreeSum args Li mv cl Post := CallM.ofE T pl_impl_TreeSum Try.func24 (by kernel_rfl) rfl (by kernel_rfl) (by kernel_rfl) hN h
abbrev id_spec_ReadLog : FuncId := 25
def pl_spec_ReadLog : Nat → Option PS := plk [(4, .v 0 (.v 1 (.v 2 (.v 3 (.v 4 (.v 5 (.v 9 (.v 10 (.v 11 (.v 12 (.x 6 [12, 11, 10, 9] (.x 7 [12, 11, 10, 9] (.v 8 (.v 13 (.v 14 (.done)))))))))))))))),
  (26, .v 0 (.v 1 (.v 2 (.v 3 (.v 4 (.v 5 (.v 6 (.v 7 (.v 8 (.v 9 (.v 10 (.v 11 (.v 12 (.v 13 (.v 14 (.v 15 (.v 16 (.v 17 (.v 18 (.v 19 (.v 20 (.v 21 (.v 22 (.v 23 (.v 24 (.v 25 (.v 26 (.v 27 (.v 28 (.v 29 (.v 30 (.v 31 (.v 32 (.v 33 (.v 34 (.v 35 (.v 36 (.v 37 (.v 38 (.v 39 (.v 40 (.v 41 (.v 42 (.v 43 (.v 44 (.v 45 (.v 46 (.v 47 (.v 48 (.v 49 (.v 50 (.v 51 (.v 52 (.v 53 (.v 54 (.v 55 (.v 56 (.v 57 (.v 58 (.v 59 (.v 60 (.v 61 (.v 62 (.v 63 (.v 64 (.x 65 [64, 63, 62, 61, 60, 59, 58, 57, 56, 55, 54, 53, 52, 51, 50, 49, 48, 47, 46, 45, 44, 43, 42, 41, 40, 39, 38, 37, 36, 35, 34, 33, 32, 31, 30, 29, 28, 27, 26, 25, 24, 23, 22, 21, 20, 19, 18, 17, 16, 15, 14, 13, 12, 11, 10, 9, 8, 7, 6, 5, 4, 3, 2, 1, 0] (.x 66 [] (.done)))))))))))))))))))))))))))))))))))))))))))))))))))))))))))))))))))),
  (32, .v 0 (.v 1 (.v 2 (.v 3 (.v 4 (.v 5 (.v 6 (.v 7 (.v 8 (.v 9 (.v 10 (.x 11 [2, 1, 0] (.x 12 [] (.v 13 (.v 14 (.x 15 [] (.done))))))))))))))))),
  (34, .v 0 (.x 1 [] (.v 2 (.v 3 (.v 4 (.v 7 (.v 8 (.x 5 [8, 7] (.v 6 (.v 9 (.v 10 (.done))))))))))))]
theorem F_spec_ReadLog {args : List SV} {Li : List Row} {mv : List Nat} {cl : Bool} {Post : SV → List Row → Prop} (h : wpE Try.prog (lk tyList) pl_spec_ReadLog (bodyOf Try.f25) ⟨argT args, Lof Li, []⟩ (retE (lk tyList) Try.f25.results.toList Li.length mv cl Post)) (hN : args.length ≤ Try.f25.ntmps := by simp [Try.ntmps25]) :
    CallM Try.prog id_spec_ReadLog args Li mv cl Post := CallM.ofE T pl_spec_ReadLog Try.func25 (by kernel_rfl) rfl (by kernel_rfl) (by kernel_rfl) hN h
abbrev id_laws_toByteS : FuncId := 26
def pl_laws_toByteS : Nat → Option PS := plk []
theorem F_laws_toByteS {args : List SV} {Li : List Row} {mv : List Nat} {cl : Bool} {Post : SV → List Row → Prop} (h : wpE Try.prog (lk tyList) pl_laws_toByteS (bodyOf Try.f26) ⟨argT args, Lof Li, []⟩ (retE (lk tyList) Try.f26.results.toList Li.length mv cl Post)) (hN : args.length ≤ Try.f26.ntmps := by simp [Try.ntmps26]) :
    CallM Try.prog id_laws_toByteS args Li mv cl Post := CallM.ofE T pl_laws_toByteS Try.func26 (by kernel_rfl) rfl (by kernel_rfl) (by kernel_rfl) hN h
abbrev id_impl_ReadLog : FuncId := 27
def pl_impl_ReadLog : Nat → Option PS := plk [(4, .v 0 (.v 1 (.v 2 (.v 3 (.v 4 (.v 5 (.v 10 (.v 11 (.v 12 (.v 13 (.x 6 [13, 12, 11, 10] (.v 7 (.x 8 [13, 12, 11, 10] (.v 9 (.v 14 (.v 15 (.done))))))))))))))))),
  (12, .v 0 (.v 1 (.v 2 (.v 3 (.v 4 (.v 5 (.v 6 (.v 7 (.v 8 (.v 9 (.v 10 (.v 11 (.done))))))))))))),
  (30, .v 0 (.v 1 (.v 2 (.v 3 (.v 4 (.v 5 (.v 6 (.v 7 (.v 8 (.v 9 (.x 10 [0] (.x 11 [0] (.x 12 [] (.v 13 (.done)))))))))))))))]
theorem F_impl_ReadLog {args : List SV} {Li : List Row} {mv : List Nat} {cl : Bool} {Post : SV → List Row → Prop} (h : wpE Try.prog (lk tyList) pl_impl_ReadLog (bodyOf Try.f27) ⟨argT args, Lof Li, []⟩ (retE (lk tyList) Try.f27.results.toList Li.length mv cl Post)) (hN : args.length ≤ Try.f27.ntmps := by simp [Try.ntmps27]) :
    CallM Try.prog id_impl_ReadLog args Li mv cl Post := CallM.ofE T pl_impl_ReadLog Try.func27 (by kernel_rfl) rfl (by kernel_rfl) (by kernel_rfl) hN h
abbrev id_laws_heldOpS : FuncId := 28
def pl_laws_heldOpS : Nat → Option PS := plk [(34, .v 0 (.v 1 (.v 2 (.v 3 (.v 4 (.v 5 (.x 6 [4, 3, 2, 1, 0] (.v 7 (.done))))))))),
  (37, .v 0 (.v 1 (.v 2 (.v 3 (.v 4 (.v 5 (.x 6 [4, 3, 2, 1, 0] (.v 7 (.done)))))))))]
theorem F_laws_heldOpS {args : List SV} {Li : List Row} {mv : List Nat} {cl : Bool} {Post : SV → List Row → Prop} (h : wpE Try.prog (lk tyList) pl_laws_heldOpS (bodyOf Try.f28) ⟨argT args, Lof Li, []⟩ (retE (lk tyList) Try.f28.results.toList Li.length mv cl Post)) (hN : args.length ≤ Try.f28.ntmps := by simp [Try.ntmps28]) :
    CallM Try.prog id_laws_heldOpS args Li mv cl Post := CallM.ofE T pl_laws_heldOpS Try.func28 (by kernel_rfl) rfl (by kernel_rfl) (by kernel_rfl) hN h
abbrev id_spec_DrawLogSince : FuncId := 29
def pl_spec_DrawLogSince : Nat → Option PS := plk []
theorem F_spec_DrawLogSince {args : List SV} {Li : List Row} {mv : List Nat} {cl : Bool} {Post : SV → List Row → Prop} (h : wpE Try.prog (lk tyList) pl_spec_DrawLogSince (bodyOf Try.f29) ⟨argT args, Lof Li, []⟩ (retE (lk tyList) Try.f29.results.toList Li.length mv cl Post)) (hN : args.length ≤ Try.f29.ntmps := by simp [Try.ntmps29]) :
    CallM Try.prog id_spec_DrawLogSince args Li mv cl Post := CallM.ofE T pl_spec_DrawLogSince Try.func29 (by kernel_rfl) rfl (by kernel_rfl) (by kernel_rfl) hN h
abbrev id_impl_LogSince : FuncId := 30
def pl_impl_LogSince : Nat → Option PS := plk [(11, .v 0 (.v 1 (.v 2 (.v 3 (.v 4 (.v 5 (.v 6 (.v 7 (.done)))))))))]
theorem F_impl_LogSince {args : List SV} {Li : List Row} {mv : List Nat} {cl : Bool} {Post : SV → List Row → Prop} (h : wpE Try.prog (lk tyList) pl_impl_LogSince (bodyOf Try.f30) ⟨argT args, Lof Li, []⟩ (retE (lk tyList) Try.f30.results.toList Li.length mv cl Post)) (hN : args.length ≤ Try.f30.ntmps := by simp [Try.ntmps30]) :
    CallM Try.prog id_impl_LogSince args Li mv cl Post := CallM.ofE T pl_impl_LogSince Try.func30 (by kernel_rfl) rfl (by kernel_rfl) (by kernel_rfl) hN h
abbrev id_spec_LogSince : FuncId := 31
def pl_spec_LogSince : Nat → Option PS := plk [(7, .v 0 (.v 1 (.v 2 (.v 3 (.v 4 (.v 5 (.v 6 (.v 7 (.v 8 (.v 9 (.v 10 (.v 11 (.v 12 (.v 13 (.v 14 (.done))))))))))))))))]
theorem F_spec_LogSince {args : List SV} {Li : List Row} {mv : List Nat} {cl : Bool} {Post : SV → List Row → Prop} (h : wpE Try.prog (lk tyList) pl_spec_LogSince (bodyOf Try.f31) ⟨argT args, Lof Li, []⟩ (retE (lk tyList) Try.f31.results.toList Li.length mv cl Post)) (hN : args.length ≤ Try.f31.ntmps := by simp [Try.ntmps31]) :
    CallM Try.prog id_spec_LogSince args Li mv cl Post := CallM.ofE T pl_spec_LogSince Try.func31 (by kernel_rfl) rfl (by kernel_rfl) (by kernel_rfl) hN h
abbrev id_laws_sameLog : FuncId := 32
def pl_laws_sameLog : Nat → Option PS := plk [(6, .v 0 (.v 1 (.v 2 (.v 3 (.v 4 (.v 5 (.v 6 (.v 7 (.x 8 [] (.v 9 (.done)))))))))))]
theorem F_laws_sameLog {args : List SV} {Li : List Row} {mv : List Nat} {cl : Bool} {Post : SV → List Row → Prop} (h : wpE Try.prog (lk tyList) pl_laws_sameLog (bodyOf Try.f32) ⟨argT args, Lof Li, []⟩ (retE (lk tyList) Try.f32.results.toList Li.length mv cl Post)) (hN : args.length ≤ Try.f32.ntmps := by simp [Try.ntmps32]) :
    CallM Try.prog id_laws_sameLog args Li mv cl Post := CallM.ofE T pl_laws_sameLog Try.func32 (by kernel_rfl) rfl (by kernel_rfl) (by kernel_rfl) hN h
abbrev id_impl_LogVector : FuncId := 33
def pl_impl_LogVector : Nat → Option PS := plk []
theorem F_impl_LogVector {args : List SV} {Li : List Row} {mv : List Nat} {cl : Bool} {Post : SV → List Row → Prop} (h : wpE Try.prog (lk tyList) pl_impl_LogVector (bodyOf Try.f33) ⟨argT args, Lof Li, []⟩ (retE (lk tyList) Try.f33.results.toList Li.length mv cl Post)) (hN : args.length ≤ Try.f33.ntmps := by simp [Try.ntmps33]) :
    CallM Try.prog id_impl_LogVector args Li mv cl Post := CallM.ofE T pl_impl_LogVector Try.func33 (by kernel_rfl) rfl (by kernel_rfl) (by kernel_rfl) hN h
abbrev id_spec_DrawBranchBase : FuncId := 34
def pl_spec_DrawBranchBase : Nat → Option PS := plk []
theorem F_spec_DrawBranchBase {args : List SV} {Li : List Row} {mv : List Nat} {cl : Bool} {Post : SV → List Row → Prop} (h : wpE Try.prog (lk tyList) pl_spec_DrawBranchBase (bodyOf Try.f34) ⟨argT args, Lof Li, []⟩ (retE (lk tyList) Try.f34.results.toList Li.length mv cl Post)) (hN : args.length ≤ Try.f34.ntmps := by simp [Try.ntmps34]) :
    CallM Try.prog id_spec_DrawBranchBase args Li mv cl Post := CallM.ofE T pl_spec_DrawBranchBase Try.func34 (by kernel_rfl) rfl (by kernel_rfl) (by kernel_rfl) hN h
abbrev id_spec_BranchMerge : FuncId := 35
def pl_spec_BranchMerge : Nat → Option PS := plk [(14, .v 0 (.v 1 (.v 2 (.v 3 (.v 4 (.v 5 (.v 6 (.v 7 (.v 8 (.v 9 (.v 10 (.v 11 (.v 12 (.v 13 (.v 14 (.done))))))))))))))))]
theorem F_spec_BranchMerge {args : List SV} {Li : List Row} {mv : List Nat} {cl : Bool} {Post : SV → List Row → Prop} (h : wpE Try.prog (lk tyList) pl_spec_BranchMerge (bodyOf Try.f35) ⟨argT args, Lof Li, []⟩ (retE (lk tyList) Try.f35.results.toList Li.length mv cl Post)) (hN : args.length ≤ Try.f35.ntmps := by simp [Try.ntmps35]) :
    CallM Try.prog id_spec_BranchMerge args Li mv cl Post := CallM.ofE T pl_spec_BranchMerge Try.func35 (by kernel_rfl) rfl (by kernel_rfl) (by kernel_rfl) hN h
abbrev id_impl_BranchMerge : FuncId := 36
def pl_impl_BranchMerge : Nat → Option PS := plk []
theorem F_impl_BranchMerge {args : List SV} {Li : List Row} {mv : List Nat} {cl : Bool} {Post : SV → List Row → Prop} (h : wpE Try.prog (lk tyList) pl_impl_BranchMerge (bodyOf Try.f36) ⟨argT args, Lof Li, []⟩ (retE (lk tyList) Try.f36.results.toList Li.length mv cl Post)) (hN : args.length ≤ Try.f36.ntmps := by simp [Try.ntmps36]) :
    CallM Try.prog id_impl_BranchMerge args Li mv cl Post := CallM.ofE T pl_impl_BranchMerge Try.func36 (by kernel_rfl) rfl (by kernel_rfl) (by kernel_rfl) hN h
abbrev id_impl_BranchBase : FuncId := 37
def pl_impl_BranchBase : Nat → Option PS := plk []
theorem F_impl_BranchBase {args : List SV} {Li : List Row} {mv : List Nat} {cl : Bool} {Post : SV → List Row → Prop} (h : wpE Try.prog (lk tyList) pl_impl_BranchBase (bodyOf Try.f37) ⟨argT args, Lof Li, []⟩ (retE (lk tyList) Try.f37.results.toList Li.length mv cl Post)) (hN : args.length ≤ Try.f37.ntmps := by simp [Try.ntmps37]) :
    CallM Try.prog id_impl_BranchBase args Li mv cl Post := CallM.ofE T pl_impl_BranchBase Try.func37 (by kernel_rfl) rfl (by kernel_rfl) (by kernel_rfl) hN h
abbrev id_spec_BranchBase : FuncId := 38
def pl_spec_BranchBase : Nat → Option PS := plk []
theorem F_spec_BranchBase {args : List SV} {Li : List Row} {mv : List Nat} {cl : Bool} {Post : SV → List Row → Prop} (h : wpE Try.prog (lk tyList) pl_spec_BranchBase (bodyOf Try.f38) ⟨argT args, Lof Li, []⟩ (retE (lk tyList) Try.f38.results.toList Li.length mv cl Post)) (hN : args.length ≤ Try.f38.ntmps := by simp [Try.ntmps38]) :
    CallM Try.prog id_spec_BranchBase args Li mv cl Post := CallM.ofE T pl_spec_BranchBase Try.func38 (by kernel_rfl) rfl (by kernel_rfl) (by kernel_rfl) hN h
abbrev id_impl_BranchAhead : FuncId := 39
def pl_impl_BranchAhead : Nat → Option PS := plk []
theorem F_impl_BranchAhead {args : List SV} {Li : List Row} {mv : List Nat} {cl : Bool} {Post : SV → List Row → Prop} (h : wpE Try.prog (lk tyList) pl_impl_BranchAhead (bodyOf Try.f39) ⟨argT args, Lof Li, []⟩ (retE (lk tyList) Try.f39.results.toList Li.length mv cl Post)) (hN : args.length ≤ Try.f39.ntmps := by simp [Try.ntmps39]) :
    CallM Try.prog id_impl_BranchAhead args Li mv cl Post := CallM.ofE T pl_impl_BranchAhead Try.func39 (by kernel_rfl) rfl (by kernel_rfl) (by kernel_rfl) hN h
abbrev id_spec_DrawBranchMerge : FuncId := 40
def pl_spec_DrawBranchMerge : Nat → Option PS := plk []
theorem F_spec_DrawBranchMerge {args : List SV} {Li : List Row} {mv : List Nat} {cl : Bool} {Post : SV → List Row → Prop} (h : wpE Try.prog (lk tyList) pl_spec_DrawBranchMerge (bodyOf Try.f40) ⟨argT args, Lof Li, []⟩ (retE (lk tyList) Try.f40.results.toList Li.length mv cl Post)) (hN : args.length ≤ Try.f40.ntmps := by simp [Try.ntmps40]) :
    CallM Try.prog id_spec_DrawBranchMerge args Li mv cl Post := CallM.ofE T pl_spec_DrawBranchMerge Try.func40 (by kernel_rfl) rfl (by kernel_rfl) (by kernel_rfl) hN h
abbrev id_impl_LogAdd : FuncId := 41
def pl_impl_LogAdd : Nat → Option PS := plk [(42, .v 0 (.v 1 (.v 2 (.v 3 (.v 4 (.v 5 (.v 6 (.x 7 [] (.v 8 (.done))))))))))]
theorem F_impl_LogAdd {args : List SV} {Li : List Row} {mv : List Nat} {cl : Bool} {Post : SV → List Row → Prop} (h : wpE Try.prog (lk tyList) pl_impl_LogAdd (bodyOf Try.f41) ⟨argT args, Lof Li, []⟩ (retE (lk tyList) Try.f41.results.toList Li.length mv cl Post)) (hN : args.length ≤ Try.f41.ntmps := by simp [Try.ntmps41]) :
    CallM Try.prog id_impl_LogAdd args Li mv cl Post := CallM.ofE T pl_impl_LogAdd Try.func41 (by kernel_rfl) rfl (by kernel_rfl) (by kernel_rfl) hN h
abbrev id_spec_DrawLogAdd : FuncId := 42
def pl_spec_DrawLogAdd : Nat → Option PS := plk [(18, .v 0 (.v 1 (.v 2 (.v 3 (.or (.x 4 [2, 1, 0] (.v 5 (.v 6 (.or (.x 7 [] (.x 8 [] (.x 9 [] (.done)))) (.x 8 [6, 5, 2, 1, 0] (.x 7 [] (.x 9 [] (.done)))))))) (.x 8 [3, 2, 1, 0] (.x 4 [2, 1, 0] (.v 5 (.v 6 (.x 7 [] (.x 9 [] (.done))))))))))))]
theorem F_spec_DrawLogAdd {args : List SV} {Li : List Row} {mv : List Nat} {cl : Bool} {Post : SV → List Row → Prop} (h : wpE Try.prog (lk tyList) pl_spec_DrawLogAdd (bodyOf Try.f42) ⟨argT args, Lof Li, []⟩ (retE (lk tyList) Try.f42.results.toList Li.length mv cl Post)) (hN : args.length ≤ Try.f42.ntmps := by simp [Try.ntmps42]) :
    CallM Try.prog id_spec_DrawLogAdd args Li mv cl Post := CallM.ofE T pl_spec_DrawLogAdd Try.func42 (by kernel_rfl) rfl (by kernel_rfl) (by kernel_rfl) hN h
abbrev id_spec_LogAdd : FuncId := 43
def pl_spec_LogAdd : Nat → Option PS := plk [(15, .v 0 (.v 1 (.v 2 (.v 3 (.v 4 (.v 5 (.v 6 (.v 7 (.v 8 (.v 9 (.v 10 (.x 11 [] (.v 12 (.done)))))))))))))),
  (17, .v 0 (.v 1 (.v 2 (.v 3 (.v 4 (.v 5 (.v 6 (.v 7 (.x 8 [] (.v 9 (.done))))))))))),
  (23, .v 0 (.v 1 (.v 2 (.v 3 (.v 4 (.v 5 (.v 6 (.v 7 (.v 8 (.v 9 (.v 10 (.v 11 (.v 12 (.v 13 (.v 14 (.v 15 (.v 16 (.v 17 (.v 18 (.v 19 (.v 20 (.v 21 (.v 22 (.v 23 (.done))))))))))))))))))))))))),
  (24, .v 0 (.v 1 (.v 2 (.v 3 (.v 4 (.v 5 (.v 6 (.v 7 (.x 8 [] (.v 9 (.done))))))))))),
  (34, .v 0 (.v 1 (.v 2 (.v 3 (.v 4 (.v 5 (.v 6 (.v 7 (.v 8 (.v 9 (.v 10 (.v 11 (.v 12 (.v 13 (.x 14 [] (.v 15 (.v 16 (.done))))))))))))))))))]
theorem F_spec_LogAdd {args : List SV} {Li : List Row} {mv : List Nat} {cl : Bool} {Post : SV → List Row → Prop} (h : wpE Try.prog (lk tyList) pl_spec_LogAdd (bodyOf Try.f43) ⟨argT args, Lof Li, []⟩ (retE (lk tyList) Try.f43.results.toList Li.length mv cl Post)) (hN : args.length ≤ Try.f43.ntmps := by simp [Try.ntmps43]) :
    CallM Try.prog id_spec_LogAdd args Li mv cl Post := CallM.ofE T pl_spec_LogAdd Try.func43 (by kernel_rfl) rfl (by kernel_rfl) (by kernel_rfl) hN h
abbrev id_laws_mixed : FuncId := 44
def pl_laws_mixed : Nat → Option PS := plk []
theorem F_laws_mixed {args : List SV} {Li : List Row} {mv : List Nat} {cl : Bool} {Post : SV → List Row → Prop} (h : wpE Try.prog (lk tyList) pl_laws_mixed (bodyOf Try.f44) ⟨argT args, Lof Li, []⟩ (retE (lk tyList) Try.f44.results.toList Li.length mv cl Post)) (hN : args.length ≤ Try.f44.ntmps := by simp [Try.ntmps44]) :
    CallM Try.prog id_laws_mixed args Li mv cl Post := CallM.ofE T pl_laws_mixed Try.func44 (by kernel_rfl) rfl (by kernel_rfl) (by kernel_rfl) hN h
abbrev id_spec_LogOK : FuncId := 45
def pl_spec_LogOK : Nat → Option PS := plk [(8, .v 0 (.v 1 (.v 2 (.v 3 (.v 4 (.v 5 (.v 6 (.v 7 (.v 8 (.v 9 (.v 10 (.v 11 (.v 12 (.v 13 (.v 14 (.v 15 (.v 16 (.done)))))))))))))))))),
  (9, .v 0 (.v 1 (.v 2 (.v 3 (.v 4 (.v 5 (.v 6 (.v 7 (.v 8 (.v 9 (.v 10 (.v 11 (.v 12 (.v 13 (.v 14 (.v 15 (.v 16 (.v 17 (.v 18 (.v 19 (.v 20 (.v 21 (.v 22 (.v 23 (.v 24 (.v 25 (.v 26 (.v 27 (.v 28 (.v 29 (.v 30 (.v 31 (.v 32 (.v 33 (.v 34 (.v 35 (.v 36 (.v 37 (.v 38 (.v 39 (.v 40 (.v 41 (.v 42 (.v 43 (.v 44 (.v 45 (.done))))))))))))))))))))))))))))))))))))))))))))))),
  (16, .v 0 (.v 1 (.v 2 (.v 3 (.v 4 (.v 5 (.x 6 [] (.v 7 (.done)))))))))]
theorem F_spec_LogOK {args : List SV} {Li : List Row} {mv : List Nat} {cl : Bool} {Post : SV → List Row → Prop} (h : wpE Try.prog (lk tyList) pl_spec_LogOK (bodyOf Try.f45) ⟨argT args, Lof Li, []⟩ (retE (lk tyList) Try.f45.results.toList Li.length mv cl Post)) (hN : args.length ≤ Try.f45.ntmps := by simp [Try.ntmps45]) :
    CallM Try.prog id_spec_LogOK args Li mv cl Post := CallM.ofE T pl_spec_LogOK Try.func45 (by kernel_rfl) rfl (by kernel_rfl) (by kernel_rfl) hN h
abbrev id_spec_ReadRecords : FuncId := 46
def pl_spec_ReadRecords : Nat → Option PS := plk []
theorem F_spec_ReadRecords {args : List SV} {Li : List Row} {mv : List Nat} {cl : Bool} {Post : SV → List Row → Prop} (h : wpE Try.prog (lk tyList) pl_spec_ReadRecords (bodyOf Try.f46) ⟨argT args, Lof Li, []⟩ (retE (lk tyList) Try.f46.results.toList Li.length mv cl Post)) (hN : args.length ≤ Try.f46.ntmps := by simp [Try.ntmps46]) :
    CallM Try.prog id_spec_ReadRecords args Li mv cl Post := CallM.ofE T pl_spec_ReadRecords Try.func46 (by kernel_rfl) rfl (by kernel_rfl) (by kernel_rfl) hN h
abbrev id_impl_ReadRecords : FuncId := 47
def pl_impl_ReadRecords : Nat → Option PS := plk []
theorem F_impl_ReadRecords {args : List SV} {Li : List Row} {mv : List Nat} {cl : Bool} {Post : SV → List Row → Prop} (h : wpE Try.prog (lk tyList) pl_impl_ReadRecords (bodyOf Try.f47) ⟨argT args, Lof Li, []⟩ (retE (lk tyList) Try.f47.results.toList Li.length mv cl Post)) (hN : args.length ≤ Try.f47.ntmps := by simp [Try.ntmps47]) :
    CallM Try.prog id_impl_ReadRecords args Li mv cl Post := CallM.ofE T pl_impl_ReadRecords Try.func47 (by kernel_rfl) rfl (by kernel_rfl) (by kernel_rfl) hN h
abbrev id_spec_DrawOpBytes : FuncId := 48
def pl_spec_DrawOpBytes : Nat → Option PS := plk []
theorem F_spec_DrawOpBytes {args : List SV} {Li : List Row} {mv : List Nat} {cl : Bool} {Post : SV → List Row → Prop} (h : wpE Try.prog (lk tyList) pl_spec_DrawOpBytes (bodyOf Try.f48) ⟨argT args, Lof Li, []⟩ (retE (lk tyList) Try.f48.results.toList Li.length mv cl Post)) (hN : args.length ≤ Try.f48.ntmps := by simp [Try.ntmps48]) :
    CallM Try.prog id_spec_DrawOpBytes args Li mv cl Post := CallM.ofE T pl_spec_DrawOpBytes Try.func48 (by kernel_rfl) rfl (by kernel_rfl) (by kernel_rfl) hN h
abbrev id_impl_RecordBytes : FuncId := 49
def pl_impl_RecordBytes : Nat → Option PS := plk []
theorem F_impl_RecordBytes {args : List SV} {Li : List Row} {mv : List Nat} {cl : Bool} {Post : SV → List Row → Prop} (h : wpE Try.prog (lk tyList) pl_impl_RecordBytes (bodyOf Try.f49) ⟨argT args, Lof Li, []⟩ (retE (lk tyList) Try.f49.results.toList Li.length mv cl Post)) (hN : args.length ≤ Try.f49.ntmps := by simp [Try.ntmps49]) :
    CallM Try.prog id_impl_RecordBytes args Li mv cl Post := CallM.ofE T pl_impl_RecordBytes Try.func49 (by kernel_rfl) rfl (by kernel_rfl) (by kernel_rfl) hN h
abbrev id_spec_RecordBytes : FuncId := 50
def pl_spec_RecordBytes : Nat → Option PS := plk []
theorem F_spec_RecordBytes {args : List SV} {Li : List Row} {mv : List Nat} {cl : Bool} {Post : SV → List Row → Prop} (h : wpE Try.prog (lk tyList) pl_spec_RecordBytes (bodyOf Try.f50) ⟨argT args, Lof Li, []⟩ (retE (lk tyList) Try.f50.results.toList Li.length mv cl Post)) (hN : args.length ≤ Try.f50.ntmps := by simp [Try.ntmps50]) :
    CallM Try.prog id_spec_RecordBytes args Li mv cl Post := CallM.ofE T pl_spec_RecordBytes Try.func50 (by kernel_rfl) rfl (by kernel_rfl) (by kernel_rfl) hN h
abbrev id_laws_at : FuncId := 51
def pl_laws_at : Nat → Option PS := plk [(5, .v 0 (.v 1 (.v 2 (.v 3 (.v 4 (.v 5 (.v 6 (.v 7 (.v 8 (.v 9 (.v 10 (.v 11 (.v 12 (.v 13 (.v 14 (.v 15 (.v 16 (.v 17 (.v 18 (.v 19 (.v 20 (.v 21 (.v 22 (.v 23 (.v 24 (.v 25 (.v 26 (.done))))))))))))))))))))))))))))]
theorem F_laws_at {args : List SV} {Li : List Row} {mv : List Nat} {cl : Bool} {Post : SV → List Row → Prop} (h : wpE Try.prog (lk tyList) pl_laws_at (bodyOf Try.f51) ⟨argT args, Lof Li, []⟩ (retE (lk tyList) Try.f51.results.toList Li.length mv cl Post)) (hN : args.length ≤ Try.f51.ntmps := by simp [Try.ntmps51]) :
    CallM Try.prog id_laws_at args Li mv cl Post := CallM.ofE T pl_laws_at Try.func51 (by kernel_rfl) rfl (by kernel_rfl) (by kernel_rfl) hN h
abbrev id_impl_GroupRun : FuncId := 52
def pl_impl_GroupRun : Nat → Option PS := plk [(9, .v 0 (.v 1 (.v 2 (.v 3 (.v 4 (.v 5 (.v 6 (.v 7 (.v 8 (.x 9 [4, 3, 2, 1, 0] (.x 10 [0] (.v 11 (.v 12 (.x 13 [] (.done)))))))))))))))]
theorem F_impl_GroupRun {args : List SV} {Li : List Row} {mv : List Nat} {cl : Bool} {Post : SV → List Row → Prop} (h : wpE Try.prog (lk tyList) pl_impl_GroupRun (bodyOf Try.f52) ⟨argT args, Lof Li, []⟩ (retE (lk tyList) Try.f52.results.toList Li.length mv cl Post)) (hN : args.length ≤ Try.f52.ntmps := by simp [Try.ntmps52]) :
    CallM Try.prog id_impl_GroupRun args Li mv cl Post := CallM.ofE T pl_impl_GroupRun Try.func52 (by kernel_rfl) rfl (by kernel_rfl) (by kernel_rfl) hN h
abbrev id_spec_DrawSetJoin : FuncId := 53
def pl_spec_DrawSetJoin : Nat → Option PS := plk [(2, .v 0 (.v 1 (.x 2 [1] (.x 3 [] (.done)))))]
theorem F_spec_DrawSetJoin {args : List SV} {Li : List Row} {mv : List Nat} {cl : Bool} {Post : SV → List Row → Prop} (h : wpE Try.prog (lk tyList) pl_spec_DrawSetJoin (bodyOf Try.f53) ⟨argT args, Lof Li, []⟩ (retE (lk tyList) Try.f53.results.toList Li.length mv cl Post)) (hN : args.length ≤ Try.f53.ntmps := by simp [Try.ntmps53]) :
    CallM Try.prog id_spec_DrawSetJoin args Li mv cl Post := CallM.ofE T pl_spec_DrawSetJoin Try.func53 (by kernel_rfl) rfl (by kernel_rfl) (by kernel_rfl) hN h
abbrev id_spec_SetJoin : FuncId := 54
def pl_spec_SetJoin : Nat → Option PS := plk []
theorem F_spec_SetJoin {args : List SV} {Li : List Row} {mv : List Nat} {cl : Bool} {Post : SV → List Row → Prop} (h : wpE Try.prog (lk tyList) pl_spec_SetJoin (bodyOf Try.f54) ⟨argT args, Lof Li, []⟩ (retE (lk tyList) Try.f54.results.toList Li.length mv cl Post)) (hN : args.length ≤ Try.f54.ntmps := by simp [Try.ntmps54]) :
    CallM Try.prog id_spec_SetJoin args Li mv cl Post := CallM.ofE T pl_spec_SetJoin Try.func54 (by kernel_rfl) rfl (by kernel_rfl) (by kernel_rfl) hN h
abbrev id_impl_SetJoin : FuncId := 55
def pl_impl_SetJoin : Nat → Option PS := plk []
theorem F_impl_SetJoin {args : List SV} {Li : List Row} {mv : List Nat} {cl : Bool} {Post : SV → List Row → Prop} (h : wpE Try.prog (lk tyList) pl_impl_SetJoin (bodyOf Try.f55) ⟨argT args, Lof Li, []⟩ (retE (lk tyList) Try.f55.results.toList Li.length mv cl Post)) (hN : args.length ≤ Try.f55.ntmps := by simp [Try.ntmps55]) :
    CallM Try.prog id_impl_SetJoin args Li mv cl Post := CallM.ofE T pl_impl_SetJoin Try.func55 (by kernel_rfl) rfl (by kernel_rfl) (by kernel_rfl) hN h
abbrev id_laws_sameInts : FuncId := 56
def pl_laws_sameInts : Nat → Option PS := plk [(6, .v 0 (.v 1 (.v 2 (.v 3 (.v 4 (.v 5 (.v 6 (.v 7 (.v 8 (.done))))))))))]
theorem F_laws_sameInts {args : List SV} {Li : List Row} {mv : List Nat} {cl : Bool} {Post : SV → List Row → Prop} (h : wpE Try.prog (lk tyList) pl_laws_sameInts (bodyOf Try.f56) ⟨argT args, Lof Li, []⟩ (retE (lk tyList) Try.f56.results.toList Li.length mv cl Post)) (hN : args.length ≤ Try.f56.ntmps := by simp [Try.ntmps56]) :
    CallM Try.prog id_laws_sameInts args Li mv cl Post := CallM.ofE T pl_laws_sameInts Try.func56 (by kernel_rfl) rfl (by kernel_rfl) (by kernel_rfl) hN h
abbrev id_laws_sameEntries : FuncId := 57
def pl_laws_sameEntries : Nat → Option PS := plk [(6, .v 0 (.v 1 (.v 2 (.v 3 (.v 4 (.v 5 (.v 6 (.v 7 (.v 8 (.done))))))))))]
theorem F_laws_sameEntries {args : List SV} {Li : List Row} {mv : List Nat} {cl : Bool} {Post : SV → List Row → Prop} (h : wpE Try.prog (lk tyList) pl_laws_sameEntries (bodyOf Try.f57) ⟨argT args, Lof Li, []⟩ (retE (lk tyList) Try.f57.results.toList Li.length mv cl Post)) (hN : args.length ≤ Try.f57.ntmps := by simp [Try.ntmps57]) :
    CallM Try.prog id_laws_sameEntries args Li mv cl Post := CallM.ofE T pl_laws_sameEntries Try.func57 (by kernel_rfl) rfl (by kernel_rfl) (by kernel_rfl) hN h
abbrev id_spec_DrawMultiJoin : FuncId := 58
def pl_spec_DrawMultiJoin : Nat → Option PS := plk []
theorem F_spec_DrawMultiJoin {args : List SV} {Li : List Row} {mv : List Nat} {cl : Bool} {Post : SV → List Row → Prop} (h : wpE Try.prog (lk tyList) pl_spec_DrawMultiJoin (bodyOf Try.f58) ⟨argT args, Lof Li, []⟩ (retE (lk tyList) Try.f58.results.toList Li.length mv cl Post)) (hN : args.length ≤ Try.f58.ntmps := by simp [Try.ntmps58]) :
    CallM Try.prog id_spec_DrawMultiJoin args Li mv cl Post := CallM.ofE T pl_spec_DrawMultiJoin Try.func58 (by kernel_rfl) rfl (by kernel_rfl) (by kernel_rfl) hN h
abbrev id_impl_MultiJoin : FuncId := 59
def pl_impl_MultiJoin : Nat → Option PS := plk []
theorem F_impl_MultiJoin {args : List SV} {Li : List Row} {mv : List Nat} {cl : Bool} {Post : SV → List Row → Prop} (h : wpE Try.prog (lk tyList) pl_impl_MultiJoin (bodyOf Try.f59) ⟨argT args, Lof Li, []⟩ (retE (lk tyList) Try.f59.results.toList Li.length mv cl Post)) (hN : args.length ≤ Try.f59.ntmps := by simp [Try.ntmps59]) :
    CallM Try.prog id_impl_MultiJoin args Li mv cl Post := CallM.ofE T pl_impl_MultiJoin Try.func59 (by kernel_rfl) rfl (by kernel_rfl) (by kernel_rfl) hN h
abbrev id_spec_MultiJoin : FuncId := 60
def pl_spec_MultiJoin : Nat → Option PS := plk []
theorem F_spec_MultiJoin {args : List SV} {Li : List Row} {mv : List Nat} {cl : Bool} {Post : SV → List Row → Prop} (h : wpE Try.prog (lk tyList) pl_spec_MultiJoin (bodyOf Try.f60) ⟨argT args, Lof Li, []⟩ (retE (lk tyList) Try.f60.results.toList Li.length mv cl Post)) (hN : args.length ≤ Try.f60.ntmps := by simp [Try.ntmps60]) :
    CallM Try.prog id_spec_MultiJoin args Li mv cl Post := CallM.ofE T pl_spec_MultiJoin Try.func60 (by kernel_rfl) rfl (by kernel_rfl) (by kernel_rfl) hN h
abbrev id_laws_szOp : FuncId := 61
def pl_laws_szOp : Nat → Option PS := plk []
theorem F_laws_szOp {args : List SV} {Li : List Row} {mv : List Nat} {cl : Bool} {Post : SV → List Row → Prop} (h : wpE Try.prog (lk tyList) pl_laws_szOp (bodyOf Try.f61) ⟨argT args, Lof Li, []⟩ (retE (lk tyList) Try.f61.results.toList Li.length mv cl Post)) (hN : args.length ≤ Try.f61.ntmps := by simp [Try.ntmps61]) :
    CallM Try.prog id_laws_szOp args Li mv cl Post := CallM.ofE T pl_laws_szOp Try.func61 (by kernel_rfl) rfl (by kernel_rfl) (by kernel_rfl) hN h
abbrev id_spec_l08Bytes : FuncId := 62
def pl_spec_l08Bytes : Nat → Option PS := plk []
theorem F_spec_l08Bytes {args : List SV} {Li : List Row} {mv : List Nat} {cl : Bool} {Post : SV → List Row → Prop} (h : wpE Try.prog (lk tyList) pl_spec_l08Bytes (bodyOf Try.f62) ⟨argT args, Lof Li, []⟩ (retE (lk tyList) Try.f62.results.toList Li.length mv cl Post)) (hN : args.length ≤ Try.f62.ntmps := by simp [Try.ntmps62]) :
    CallM Try.prog id_spec_l08Bytes args Li mv cl Post := CallM.ofE T pl_spec_l08Bytes Try.func62 (by kernel_rfl) rfl (by kernel_rfl) (by kernel_rfl) hN h
abbrev id_laws_toOp : FuncId := 63
def pl_laws_toOp : Nat → Option PS := plk []
theorem F_laws_toOp {args : List SV} {Li : List Row} {mv : List Nat} {cl : Bool} {Post : SV → List Row → Prop} (h : wpE Try.prog (lk tyList) pl_laws_toOp (bodyOf Try.f63) ⟨argT args, Lof Li, []⟩ (retE (lk tyList) Try.f63.results.toList Li.length mv cl Post)) (hN : args.length ≤ Try.f63.ntmps := by simp [Try.ntmps63]) :
    CallM Try.prog id_laws_toOp args Li mv cl Post := CallM.ofE T pl_laws_toOp Try.func63 (by kernel_rfl) rfl (by kernel_rfl) (by kernel_rfl) hN h
abbrev id_impl_LogOK : FuncId := 64
def pl_impl_LogOK : Nat → Option PS := plk []
theorem F_impl_LogOK {args : List SV} {Li : List Row} {mv : List Nat} {cl : Bool} {Post : SV → List Row → Prop} (h : wpE Try.prog (lk tyList) pl_impl_LogOK (bodyOf Try.f64) ⟨argT args, Lof Li, []⟩ (retE (lk tyList) Try.f64.results.toList Li.length mv cl Post)) (hN : args.length ≤ Try.f64.ntmps := by simp [Try.ntmps64]) :
    CallM Try.prog id_impl_LogOK args Li mv cl Post := CallM.ofE T pl_impl_LogOK Try.func64 (by kernel_rfl) rfl (by kernel_rfl) (by kernel_rfl) hN h
abbrev id_impl_logBytes : FuncId := 65
def pl_impl_logBytes : Nat → Option PS := plk []
theorem F_impl_logBytes {args : List SV} {Li : List Row} {mv : List Nat} {cl : Bool} {Post : SV → List Row → Prop} (h : wpE Try.prog (lk tyList) pl_impl_logBytes (bodyOf Try.f65) ⟨argT args, Lof Li, []⟩ (retE (lk tyList) Try.f65.results.toList Li.length mv cl Post)) (hN : args.length ≤ Try.f65.ntmps := by simp [Try.ntmps65]) :
    CallM Try.prog id_impl_logBytes args Li mv cl Post := CallM.ofE T pl_impl_logBytes Try.func65 (by kernel_rfl) rfl (by kernel_rfl) (by kernel_rfl) hN h
abbrev id_laws_eqOp : FuncId := 66
def pl_laws_eqOp : Nat → Option PS := plk []
theorem F_laws_eqOp {args : List SV} {Li : List Row} {mv : List Nat} {cl : Bool} {Post : SV → List Row → Prop} (h : wpE Try.prog (lk tyList) pl_laws_eqOp (bodyOf Try.f66) ⟨argT args, Lof Li, []⟩ (retE (lk tyList) Try.f66.results.toList Li.length mv cl Post)) (hN : args.length ≤ Try.f66.ntmps := by simp [Try.ntmps66]) :
    CallM Try.prog id_laws_eqOp args Li mv cl Post := CallM.ofE T pl_laws_eqOp Try.func66 (by kernel_rfl) rfl (by kernel_rfl) (by kernel_rfl) hN h
abbrev id_laws_markIntS : FuncId := 67
def pl_laws_markIntS : Nat → Option PS := plk []
theorem F_laws_markIntS {args : List SV} {Li : List Row} {mv : List Nat} {cl : Bool} {Post : SV → List Row → Prop} (h : wpE Try.prog (lk tyList) pl_laws_markIntS (bodyOf Try.f67) ⟨argT args, Lof Li, []⟩ (retE (lk tyList) Try.f67.results.toList Li.length mv cl Post)) (hN : args.length ≤ Try.f67.ntmps := by simp [Try.ntmps67]) :
    CallM Try.prog id_laws_markIntS args Li mv cl Post := CallM.ofE T pl_laws_markIntS Try.func67 (by kernel_rfl) rfl (by kernel_rfl) (by kernel_rfl) hN h
abbrev id_laws_markText : FuncId := 68
def pl_laws_markText : Nat → Option PS := plk []
theorem F_laws_markText {args : List SV} {Li : List Row} {mv : List Nat} {cl : Bool} {Post : SV → List Row → Prop} (h : wpE Try.prog (lk tyList) pl_laws_markText (bodyOf Try.f68) ⟨argT args, Lof Li, []⟩ (retE (lk tyList) Try.f68.results.toList Li.length mv cl Post)) (hN : args.length ≤ Try.f68.ntmps := by simp [Try.ntmps68]) :
    CallM Try.prog id_laws_markText args Li mv cl Post := CallM.ofE T pl_laws_markText Try.func68 (by kernel_rfl) rfl (by kernel_rfl) (by kernel_rfl) hN h
abbrev id_spec_l12Power : FuncId := 69
def pl_spec_l12Power : Nat → Option PS := plk []
theorem F_spec_l12Power {args : List SV} {Li : List Row} {mv : List Nat} {cl : Bool} {Post : SV → List Row → Prop} (h : wpE Try.prog (lk tyList) pl_spec_l12Power (bodyOf Try.f69) ⟨argT args, Lof Li, []⟩ (retE (lk tyList) Try.f69.results.toList Li.length mv cl Post)) (hN : args.length ≤ Try.f69.ntmps := by simp [Try.ntmps69]) :
    CallM Try.prog id_spec_l12Power args Li mv cl Post := CallM.ofE T pl_spec_l12Power Try.func69 (by kernel_rfl) rfl (by kernel_rfl) (by kernel_rfl) hN h
abbrev id_spec_l12Node : FuncId := 70
def pl_spec_l12Node : Nat → Option PS := plk []
theorem F_spec_l12Node {args : List SV} {Li : List Row} {mv : List Nat} {cl : Bool} {Post : SV → List Row → Prop} (h : wpE Try.prog (lk tyList) pl_spec_l12Node (bodyOf Try.f70) ⟨argT args, Lof Li, []⟩ (retE (lk tyList) Try.f70.results.toList Li.length mv cl Post)) (hN : args.length ≤ Try.f70.ntmps := by simp [Try.ntmps70]) :
    CallM Try.prog id_spec_l12Node args Li mv cl Post := CallM.ofE T pl_spec_l12Node Try.func70 (by kernel_rfl) rfl (by kernel_rfl) (by kernel_rfl) hN h
abbrev id_spec_l12Own : FuncId := 71
def pl_spec_l12Own : Nat → Option PS := plk []
theorem F_spec_l12Own {args : List SV} {Li : List Row} {mv : List Nat} {cl : Bool} {Post : SV → List Row → Prop} (h : wpE Try.prog (lk tyList) pl_spec_l12Own (bodyOf Try.f71) ⟨argT args, Lof Li, []⟩ (retE (lk tyList) Try.f71.results.toList Li.length mv cl Post)) (hN : args.length ≤ Try.f71.ntmps := by simp [Try.ntmps71]) :
    CallM Try.prog id_spec_l12Own args Li mv cl Post := CallM.ofE T pl_spec_l12Own Try.func71 (by kernel_rfl) rfl (by kernel_rfl) (by kernel_rfl) hN h
abbrev id_impl_readBook : FuncId := 72
def pl_impl_readBook : Nat → Option PS := plk [(7, .v 0 (.x 1 [] (.v 2 (.v 3 (.v 4 (.v 5 (.v 6 (.v 7 (.v 8 (.v 9 (.v 10 (.v 11 (.v 12 (.v 13 (.v 14 (.v 15 (.v 16 (.v 17 (.v 18 (.v 19 (.v 20 (.v 21 (.v 22 (.v 23 (.v 24 (.v 25 (.v 26 (.v 27 (.v 28 (.v 29 (.v 30 (.v 31 (.done))))))))))))))))))))))))))))))))),
  (9, .v 0 (.v 1 (.v 2 (.v 3 (.v 4 (.v 5 (.v 6 (.v 7 (.v 8 (.v 9 (.v 10 (.v 11 (.v 12 (.v 13 (.v 14 (.v 15 (.v 16 (.x 17 [15, 14, 13, 12, 11, 10, 9] (.v 18 (.v 19 (.done))))))))))))))))))))),
  (19, .v 0 (.v 1 (.v 2 (.v 3 (.v 4 (.v 5 (.v 6 (.v 7 (.v 8 (.v 9 (.v 10 (.v 11 (.v 12 (.v 13 (.v 14 (.v 15 (.v 16 (.v 17 (.v 18 (.v 19 (.v 20 (.v 21 (.v 22 (.v 24 (.x 23 [24] (.x 25 [] (.x 26 [] (.v 27 (.v 28 (.v 29 (.done)))))))))))))))))))))))))))))))]
theorem F_impl_readBook {args : List SV} {Li : List Row} {mv : List Nat} {cl : Bool} {Post : SV → List Row → Prop} (h : wpE Try.prog (lk tyList) pl_impl_readBook (bodyOf Try.f72) ⟨argT args, Lof Li, []⟩ (retE (lk tyList) Try.f72.results.toList Li.length mv cl Post)) (hN : args.length ≤ Try.f72.ntmps := by simp [Try.ntmps72]) :
    CallM Try.prog id_impl_readBook args Li mv cl Post := CallM.ofE T pl_impl_readBook Try.func72 (by kernel_rfl) rfl (by kernel_rfl) (by kernel_rfl) hN h
abbrev id_impl_isActor : FuncId := 73
def pl_impl_isActor : Nat → Option PS := plk []
theorem F_impl_isActor {args : List SV} {Li : List Row} {mv : List Nat} {cl : Bool} {Post : SV → List Row → Prop} (h : wpE Try.prog (lk tyList) pl_impl_isActor (bodyOf Try.f73) ⟨argT args, Lof Li, []⟩ (retE (lk tyList) Try.f73.results.toList Li.length mv cl Post)) (hN : args.length ≤ Try.f73.ntmps := by simp [Try.ntmps73]) :
    CallM Try.prog id_impl_isActor args Li mv cl Post := CallM.ofE T pl_impl_isActor Try.func73 (by kernel_rfl) rfl (by kernel_rfl) (by kernel_rfl) hN h
abbrev id_impl_treeOf : FuncId := 74
def pl_impl_treeOf : Nat → Option PS := plk [(13, .v 0 (.v 1 (.v 2 (.v 3 (.v 4 (.v 5 (.v 8 (.x 6 [8, 4, 3, 2, 1, 0] (.x 7 [8, 0] (.v 9 (.x 10 [] (.done)))))))))))),
  (23, .v 0 (.v 1 (.v 2 (.v 3 (.v 5 (.v 6 (.v 7 (.v 8 (.v 9 (.x 4 [9, 8, 7, 6, 5] (.x 10 [] (.x 11 [] (.v 12 (.done)))))))))))))),
  (24, .v 0 (.v 1 (.v 2 (.v 3 (.v 4 (.v 5 (.v 6 (.v 7 (.v 10 (.x 8 [10, 6, 5, 4, 3, 2, 1, 0] (.x 9 [10, 1, 0] (.v 11 (.x 12 [] (.done))))))))))))))]
theorem F_impl_treeOf {args : List SV} {Li : List Row} {mv : List Nat} {cl : Bool} {Post : SV → List Row → Prop} (h : wpE Try.prog (lk tyList) pl_impl_treeOf (bodyOf Try.f74) ⟨argT args, Lof Li, []⟩ (retE (lk tyList) Try.f74.results.toList Li.length mv cl Post)) (hN : args.length ≤ Try.f74.ntmps := by simp [Try.ntmps74]) :
    CallM Try.prog id_impl_treeOf args Li mv cl Post := CallM.ofE T pl_impl_treeOf Try.func74 (by kernel_rfl) rfl (by kernel_rfl) (by kernel_rfl) hN h
abbrev id_spec_l01Four : FuncId := 75
def pl_spec_l01Four : Nat → Option PS := plk []
theorem F_spec_l01Four {args : List SV} {Li : List Row} {mv : List Nat} {cl : Bool} {Post : SV → List Row → Prop} (h : wpE Try.prog (lk tyList) pl_spec_l01Four (bodyOf Try.f75) ⟨argT args, Lof Li, []⟩ (retE (lk tyList) Try.f75.results.toList Li.length mv cl Post)) (hN : args.length ≤ Try.f75.ntmps := by simp [Try.ntmps75]) :
    CallM Try.prog id_spec_l01Four args Li mv cl Post := CallM.ofE T pl_spec_l01Four Try.func75 (by kernel_rfl) rfl (by kernel_rfl) (by kernel_rfl) hN h
abbrev id_spec_Sum32 : FuncId := 76
def pl_spec_Sum32 : Nat → Option PS := plk []
theorem F_spec_Sum32 {args : List SV} {Li : List Row} {mv : List Nat} {cl : Bool} {Post : SV → List Row → Prop} (h : wpE Try.prog (lk tyList) pl_spec_Sum32 (bodyOf Try.f76) ⟨argT args, Lof Li, []⟩ (retE (lk tyList) Try.f76.results.toList Li.length mv cl Post)) (hN : args.length ≤ Try.f76.ntmps := by simp [Try.ntmps76]) :
    CallM Try.prog id_spec_Sum32 args Li mv cl Post := CallM.ofE T pl_spec_Sum32 Try.func76 (by kernel_rfl) rfl (by kernel_rfl) (by kernel_rfl) hN h
abbrev id_spec_l01Reader_runs : FuncId := 77
def pl_spec_l01Reader_runs : Nat → Option PS := plk []
theorem F_spec_l01Reader_runs {args : List SV} {Li : List Row} {mv : List Nat} {cl : Bool} {Post : SV → List Row → Prop} (h : wpE Try.prog (lk tyList) pl_spec_l01Reader_runs (bodyOf Try.f77) ⟨argT args, Lof Li, []⟩ (retE (lk tyList) Try.f77.results.toList Li.length mv cl Post)) (hN : args.length ≤ Try.f77.ntmps := by simp [Try.ntmps77]) :
    CallM Try.prog id_spec_l01Reader_runs args Li mv cl Post := CallM.ofE T pl_spec_l01Reader_runs Try.func77 (by kernel_rfl) rfl (by kernel_rfl) (by kernel_rfl) hN h
abbrev id_spec_l01Reader_texts : FuncId := 78
def pl_spec_l01Reader_texts : Nat → Option PS := plk [(11, .v 0 (.v 1 (.v 2 (.v 3 (.v 4 (.x 5 [3, 2, 1, 0] (.x 6 [2, 1, 0] (.v 7 (.v 8 (.done))))))))))]
theorem F_spec_l01Reader_texts {args : List SV} {Li : List Row} {mv : List Nat} {cl : Bool} {Post : SV → List Row → Prop} (h : wpE Try.prog (lk tyList) pl_spec_l01Reader_texts (bodyOf Try.f78) ⟨argT args, Lof Li, []⟩ (retE (lk tyList) Try.f78.results.toList Li.length mv cl Post)) (hN : args.length ≤ Try.f78.ntmps := by simp [Try.ntmps78]) :
    CallM Try.prog id_spec_l01Reader_texts args Li mv cl Post := CallM.ofE T pl_spec_l01Reader_texts Try.func78 (by kernel_rfl) rfl (by kernel_rfl) (by kernel_rfl) hN h
abbrev id_impl_append4 : FuncId := 79
def pl_impl_append4 : Nat → Option PS := plk []
theorem F_impl_append4 {args : List SV} {Li : List Row} {mv : List Nat} {cl : Bool} {Post : SV → List Row → Prop} (h : wpE Try.prog (lk tyList) pl_impl_append4 (bodyOf Try.f79) ⟨argT args, Lof Li, []⟩ (retE (lk tyList) Try.f79.results.toList Li.length mv cl Post)) (hN : args.length ≤ Try.f79.ntmps := by simp [Try.ntmps79]) :
    CallM Try.prog id_impl_append4 args Li mv cl Post := CallM.ofE T pl_impl_append4 Try.func79 (by kernel_rfl) rfl (by kernel_rfl) (by kernel_rfl) hN h
abbrev id_impl_sumOn : FuncId := 80
def pl_impl_sumOn : Nat → Option PS := plk []
theorem F_impl_sumOn {args : List SV} {Li : List Row} {mv : List Nat} {cl : Bool} {Post : SV → List Row → Prop} (h : wpE Try.prog (lk tyList) pl_impl_sumOn (bodyOf Try.f80) ⟨argT args, Lof Li, []⟩ (retE (lk tyList) Try.f80.results.toList Li.length mv cl Post)) (hN : args.length ≤ Try.f80.ntmps := by simp [Try.ntmps80]) :
    CallM Try.prog id_impl_sumOn args Li mv cl Post := CallM.ofE T pl_impl_sumOn Try.func80 (by kernel_rfl) rfl (by kernel_rfl) (by kernel_rfl) hN h
abbrev id_impl_reader_runs : FuncId := 81
def pl_impl_reader_runs : Nat → Option PS := plk [(24, .v 0 (.v 3 (.v 4 (.v 5 (.v 6 (.v 7 (.v 8 (.v 9 (.v 10 (.v 11 (.v 12 (.v 13 (.x 1 [13, 12, 11, 10, 9, 8, 7, 6, 5, 4, 3] (.v 2 (.v 14 (.done))))))))))))))))]
theorem F_impl_reader_runs {args : List SV} {Li : List Row} {mv : List Nat} {cl : Bool} {Post : SV → List Row → Prop} (h : wpE Try.prog (lk tyList) pl_impl_reader_runs (bodyOf Try.f81) ⟨argT args, Lof Li, []⟩ (retE (lk tyList) Try.f81.results.toList Li.length mv cl Post)) (hN : args.length ≤ Try.f81.ntmps := by simp [Try.ntmps81]) :
    CallM Try.prog id_impl_reader_runs args Li mv cl Post := CallM.ofE T pl_impl_reader_runs Try.func81 (by kernel_rfl) rfl (by kernel_rfl) (by kernel_rfl) hN h
abbrev id_impl_reader_texts : FuncId := 82
def pl_impl_reader_texts : Nat → Option PS := plk []
theorem F_impl_reader_texts {args : List SV} {Li : List Row} {mv : List Nat} {cl : Bool} {Post : SV → List Row → Prop} (h : wpE Try.prog (lk tyList) pl_impl_reader_texts (bodyOf Try.f82) ⟨argT args, Lof Li, []⟩ (retE (lk tyList) Try.f82.results.toList Li.length mv cl Post)) (hN : args.length ≤ Try.f82.ntmps := by simp [Try.ntmps82]) :
    CallM Try.prog id_impl_reader_texts args Li mv cl Post := CallM.ofE T pl_impl_reader_texts Try.func82 (by kernel_rfl) rfl (by kernel_rfl) (by kernel_rfl) hN h
abbrev id_impl_opFrom : FuncId := 83
def pl_impl_opFrom : Nat → Option PS := plk [(1, .v 0 (.v 1 (.v 2 (.v 3 (.v 4 (.v 5 (.v 6 (.v 7 (.v 8 (.v 9 (.v 10 (.v 11 (.v 12 (.v 13 (.v 14 (.v 15 (.v 16 (.v 17 (.v 19 (.v 20 (.v 21 (.v 22 (.v 23 (.v 24 (.v 25 (.v 26 (.v 27 (.v 28 (.v 29 (.v 30 (.v 31 (.v 32 (.v 33 (.x 18 [33, 32, 31, 30, 29, 28, 27, 26, 25, 24, 23, 22, 21, 20, 19, 14, 13, 12, 11, 10, 9, 8, 7, 6, 5, 4, 3, 2, 1, 0] (.v 34 (.x 35 [] (.done)))))))))))))))))))))))))))))))))))))]
theorem F_impl_opFrom {args : List SV} {Li : List Row} {mv : List Nat} {cl : Bool} {Post : SV → List Row → Prop} (h : wpE Try.prog (lk tyList) pl_impl_opFrom (bodyOf Try.f83) ⟨argT args, Lof Li, []⟩ (retE (lk tyList) Try.f83.results.toList Li.length mv cl Post)) (hN : args.length ≤ Try.f83.ntmps := by simp [Try.ntmps83]) :
    CallM Try.prog id_impl_opFrom args Li mv cl Post := CallM.ofE T pl_impl_opFrom Try.func83 (by kernel_rfl) rfl (by kernel_rfl) (by kernel_rfl) hN h
abbrev id_laws_heldIntS : FuncId := 84
def pl_laws_heldIntS : Nat → Option PS := plk []
theorem F_laws_heldIntS {args : List SV} {Li : List Row} {mv : List Nat} {cl : Bool} {Post : SV → List Row → Prop} (h : wpE Try.prog (lk tyList) pl_laws_heldIntS (bodyOf Try.f84) ⟨argT args, Lof Li, []⟩ (retE (lk tyList) Try.f84.results.toList Li.length mv cl Post)) (hN : args.length ≤ Try.f84.ntmps := by simp [Try.ntmps84]) :
    CallM Try.prog id_laws_heldIntS args Li mv cl Post := CallM.ofE T pl_laws_heldIntS Try.func84 (by kernel_rfl) rfl (by kernel_rfl) (by kernel_rfl) hN h
abbrev id_spec_l01Source : FuncId := 85
def pl_spec_l01Source : Nat → Option PS := plk []
theorem F_spec_l01Source {args : List SV} {Li : List Row} {mv : List Nat} {cl : Bool} {Post : SV → List Row → Prop} (h : wpE Try.prog (lk tyList) pl_spec_l01Source (bodyOf Try.f85) ⟨argT args, Lof Li, []⟩ (retE (lk tyList) Try.f85.results.toList Li.length mv cl Post)) (hN : args.length ≤ Try.f85.ntmps := by simp [Try.ntmps85]) :
    CallM Try.prog id_spec_l01Source args Li mv cl Post := CallM.ofE T pl_spec_l01Source Try.func85 (by kernel_rfl) rfl (by kernel_rfl) (by kernel_rfl) hN h
abbrev id_spec_l08Draw : FuncId := 86
def pl_spec_l08Draw : Nat → Option PS := plk []
theorem F_spec_l08Draw {args : List SV} {Li : List Row} {mv : List Nat} {cl : Bool} {Post : SV → List Row → Prop} (h : wpE Try.prog (lk tyList) pl_spec_l08Draw (bodyOf Try.f86) ⟨argT args, Lof Li, []⟩ (retE (lk tyList) Try.f86.results.toList Li.length mv cl Post)) (hN : args.length ≤ Try.f86.ntmps := by simp [Try.ntmps86]) :
    CallM Try.prog id_spec_l08Draw args Li mv cl Post := CallM.ofE T pl_spec_l08Draw Try.func86 (by kernel_rfl) rfl (by kernel_rfl) (by kernel_rfl) hN h
abbrev id_spec_l01Src_oddVector : FuncId := 87
def pl_spec_l01Src_oddVector : Nat → Option PS := plk [(4, .v 0 (.v 1 (.v 2 (.x 3 [1, 0] (.v 4 (.v 5 (.x 6 [] (.done)))))))),
  (6, .v 0 (.v 1 (.v 2 (.v 5 (.or (.x 3 [5, 1, 0] (.or (.x 4 [5, 1, 0] (.x 6 [1, 0] (.v 7 (.v 8 (.v 9 (.x 10 [] (.done))))))) (.x 6 [1, 0] (.x 4 [1, 0] (.v 7 (.v 8 (.v 9 (.x 10 [] (.done))))))))) (.x 4 [5, 2, 1, 0] (.x 3 [5, 1, 0] (.x 6 [1, 0] (.v 7 (.v 8 (.v 9 (.x 10 [] (.done)))))))))))))]
theorem F_spec_l01Src_oddVector {args : List SV} {Li : List Row} {mv : List Nat} {cl : Bool} {Post : SV → List Row → Prop} (h : wpE Try.prog (lk tyList) pl_spec_l01Src_oddVector (bodyOf Try.f87) ⟨argT args, Lof Li, []⟩ (retE (lk tyList) Try.f87.results.toList Li.length mv cl Post)) (hN : args.length ≤ Try.f87.ntmps := by simp [Try.ntmps87]) :
    CallM Try.prog id_spec_l01Src_oddVector args Li mv cl Post := CallM.ofE T pl_spec_l01Src_oddVector Try.func87 (by kernel_rfl) rfl (by kernel_rfl) (by kernel_rfl) hN h
abbrev id_impl_VecOK : FuncId := 88
def pl_impl_VecOK : Nat → Option PS := plk []
theorem F_impl_VecOK {args : List SV} {Li : List Row} {mv : List Nat} {cl : Bool} {Post : SV → List Row → Prop} (h : wpE Try.prog (lk tyList) pl_impl_VecOK (bodyOf Try.f88) ⟨argT args, Lof Li, []⟩ (retE (lk tyList) Try.f88.results.toList Li.length mv cl Post)) (hN : args.length ≤ Try.f88.ntmps := by simp [Try.ntmps88]) :
    CallM Try.prog id_impl_VecOK args Li mv cl Post := CallM.ofE T pl_impl_VecOK Try.func88 (by kernel_rfl) rfl (by kernel_rfl) (by kernel_rfl) hN h
abbrev id_impl_opCopy : FuncId := 89
def pl_impl_opCopy : Nat → Option PS := plk []
theorem F_impl_opCopy {args : List SV} {Li : List Row} {mv : List Nat} {cl : Bool} {Post : SV → List Row → Prop} (h : wpE Try.prog (lk tyList) pl_impl_opCopy (bodyOf Try.f89) ⟨argT args, Lof Li, []⟩ (retE (lk tyList) Try.f89.results.toList Li.length mv cl Post)) (hN : args.length ≤ Try.f89.ntmps := by simp [Try.ntmps89]) :
    CallM Try.prog id_impl_opCopy args Li mv cl Post := CallM.ofE T pl_impl_opCopy Try.func89 (by kernel_rfl) rfl (by kernel_rfl) (by kernel_rfl) hN h
abbrev id_spec_VecOK : FuncId := 90
def pl_spec_VecOK : Nat → Option PS := plk []
theorem F_spec_VecOK {args : List SV} {Li : List Row} {mv : List Nat} {cl : Bool} {Post : SV → List Row → Prop} (h : wpE Try.prog (lk tyList) pl_spec_VecOK (bodyOf Try.f90) ⟨argT args, Lof Li, []⟩ (retE (lk tyList) Try.f90.results.toList Li.length mv cl Post)) (hN : args.length ≤ Try.f90.ntmps := by simp [Try.ntmps90]) :
    CallM Try.prog id_spec_VecOK args Li mv cl Post := CallM.ofE T pl_spec_VecOK Try.func90 (by kernel_rfl) rfl (by kernel_rfl) (by kernel_rfl) hN h
abbrev id_spec_l08CopyOp : FuncId := 91
def pl_spec_l08CopyOp : Nat → Option PS := plk []
theorem F_spec_l08CopyOp {args : List SV} {Li : List Row} {mv : List Nat} {cl : Bool} {Post : SV → List Row → Prop} (h : wpE Try.prog (lk tyList) pl_spec_l08CopyOp (bodyOf Try.f91) ⟨argT args, Lof Li, []⟩ (retE (lk tyList) Try.f91.results.toList Li.length mv cl Post)) (hN : args.length ≤ Try.f91.ntmps := by simp [Try.ntmps91]) :
    CallM Try.prog id_spec_l08CopyOp args Li mv cl Post := CallM.ofE T pl_spec_l08CopyOp Try.func91 (by kernel_rfl) rfl (by kernel_rfl) (by kernel_rfl) hN h
abbrev id_laws_sameOp : FuncId := 92
def pl_laws_sameOp : Nat → Option PS := plk []
theorem F_laws_sameOp {args : List SV} {Li : List Row} {mv : List Nat} {cl : Bool} {Post : SV → List Row → Prop} (h : wpE Try.prog (lk tyList) pl_laws_sameOp (bodyOf Try.f92) ⟨argT args, Lof Li, []⟩ (retE (lk tyList) Try.f92.results.toList Li.length mv cl Post)) (hN : args.length ≤ Try.f92.ntmps := by simp [Try.ntmps92]) :
    CallM Try.prog id_laws_sameOp args Li mv cl Post := CallM.ofE T pl_laws_sameOp Try.func92 (by kernel_rfl) rfl (by kernel_rfl) (by kernel_rfl) hN h
abbrev id_impl_book_vector : FuncId := 93
def pl_impl_book_vector : Nat → Option PS := plk []
theorem F_impl_book_vector {args : List SV} {Li : List Row} {mv : List Nat} {cl : Bool} {Post : SV → List Row → Prop} (h : wpE Try.prog (lk tyList) pl_impl_book_vector (bodyOf Try.f93) ⟨argT args, Lof Li, []⟩ (retE (lk tyList) Try.f93.results.toList Li.length mv cl Post)) (hN : args.length ≤ Try.f93.ntmps := by simp [Try.ntmps93]) :
    CallM Try.prog id_impl_book_vector args Li mv cl Post := CallM.ofE T pl_impl_book_vector Try.func93 (by kernel_rfl) rfl (by kernel_rfl) (by kernel_rfl) hN h
abbrev id_spec_l11Draw : FuncId := 94
def pl_spec_l11Draw : Nat → Option PS := plk []
theorem F_spec_l11Draw {args : List SV} {Li : List Row} {mv : List Nat} {cl : Bool} {Post : SV → List Row → Prop} (h : wpE Try.prog (lk tyList) pl_spec_l11Draw (bodyOf Try.f94) ⟨argT args, Lof Li, []⟩ (retE (lk tyList) Try.f94.results.toList Li.length mv cl Post)) (hN : args.length ≤ Try.f94.ntmps := by simp [Try.ntmps94]) :
    CallM Try.prog id_spec_l11Draw args Li mv cl Post := CallM.ofE T pl_spec_l11Draw Try.func94 (by kernel_rfl) rfl (by kernel_rfl) (by kernel_rfl) hN h
abbrev id_spec_l11Code : FuncId := 95
def pl_spec_l11Code : Nat → Option PS := plk [(6, .v 0 (.v 1 (.v 2 (.v 3 (.v 4 (.v 5 (.v 6 (.v 7 (.v 8 (.v 9 (.v 10 (.x 11 [] (.v 12 (.done)))))))))))))),
  (7, .v 0 (.v 1 (.v 2 (.v 3 (.v 4 (.v 5 (.v 6 (.v 7 (.v 8 (.v 9 (.v 10 (.x 11 [] (.v 12 (.v 13 (.done)))))))))))))))]
theorem F_spec_l11Code {args : List SV} {Li : List Row} {mv : List Nat} {cl : Bool} {Post : SV → List Row → Prop} (h : wpE Try.prog (lk tyList) pl_spec_l11Code (bodyOf Try.f95) ⟨argT args, Lof Li, []⟩ (retE (lk tyList) Try.f95.results.toList Li.length mv cl Post)) (hN : args.length ≤ Try.f95.ntmps := by simp [Try.ntmps95]) :
    CallM Try.prog id_spec_l11Code args Li mv cl Post := CallM.ofE T pl_spec_l11Code Try.func95 (by kernel_rfl) rfl (by kernel_rfl) (by kernel_rfl) hN h
abbrev id_spec_l08KindFits : FuncId := 96
def pl_spec_l08KindFits : Nat → Option PS := plk [(4, .v 0 (.v 1 (.v 2 (.v 3 (.v 4 (.v 5 (.v 6 (.v 7 (.v 8 (.v 9 (.v 10 (.v 11 (.v 12 (.v 13 (.v 15 (.v 16 (.x 14 [16, 15] (.x 17 [] (.v 18 (.v 19 (.done)))))))))))))))))))))]
theorem F_spec_l08KindFits {args : List SV} {Li : List Row} {mv : List Nat} {cl : Bool} {Post : SV → List Row → Prop} (h : wpE Try.prog (lk tyList) pl_spec_l08KindFits (bodyOf Try.f96) ⟨argT args, Lof Li, []⟩ (retE (lk tyList) Try.f96.results.toList Li.length mv cl Post)) (hN : args.length ≤ Try.f96.ntmps := by simp [Try.ntmps96]) :
    CallM Try.prog id_spec_l08KindFits args Li mv cl Post := CallM.ofE T pl_spec_l08KindFits Try.func96 (by kernel_rfl) rfl (by kernel_rfl) (by kernel_rfl) hN h
abbrev id_spec_l08Copy : FuncId := 97
def pl_spec_l08Copy : Nat → Option PS := plk []
theorem F_spec_l08Copy {args : List SV} {Li : List Row} {mv : List Nat} {cl : Bool} {Post : SV → List Row → Prop} (h : wpE Try.prog (lk tyList) pl_spec_l08Copy (bodyOf Try.f97) ⟨argT args, Lof Li, []⟩ (retE (lk tyList) Try.f97.results.toList Li.length mv cl Post)) (hN : args.length ≤ Try.f97.ntmps := by simp [Try.ntmps97]) :
    CallM Try.prog id_spec_l08Copy args Li mv cl Post := CallM.ofE T pl_spec_l08Copy Try.func97 (by kernel_rfl) rfl (by kernel_rfl) (by kernel_rfl) hN h
abbrev id_spec_l08Counts : FuncId := 98
def pl_spec_l08Counts : Nat → Option PS := plk [(5, .v 0 (.v 1 (.v 2 (.v 3 (.v 4 (.v 5 (.v 6 (.v 7 (.v 8 (.v 9 (.v 10 (.x 11 [] (.done)))))))))))))]
theorem F_spec_l08Counts {args : List SV} {Li : List Row} {mv : List Nat} {cl : Bool} {Post : SV → List Row → Prop} (h : wpE Try.prog (lk tyList) pl_spec_l08Counts (bodyOf Try.f98) ⟨argT args, Lof Li, []⟩ (retE (lk tyList) Try.f98.results.toList Li.length mv cl Post)) (hN : args.length ≤ Try.f98.ntmps := by simp [Try.ntmps98]) :
    CallM Try.prog id_spec_l08Counts args Li mv cl Post := CallM.ofE T pl_spec_l08Counts Try.func98 (by kernel_rfl) rfl (by kernel_rfl) (by kernel_rfl) hN h
abbrev id_spec_l08Insert : FuncId := 99
def pl_spec_l08Insert : Nat → Option PS := plk [(2, .v 0 (.v 1 (.v 2 (.v 3 (.v 4 (.v 5 (.v 6 (.v 7 (.v 8 (.v 9 (.v 10 (.v 11 (.v 12 (.v 13 (.v 14 (.v 15 (.v 16 (.v 17 (.v 18 (.v 19 (.v 20 (.v 21 (.v 22 (.v 23 (.v 24 (.v 25 (.v 26 (.v 27 (.v 28 (.v 29 (.v 30 (.v 31 (.v 32 (.v 33 (.done)))))))))))))))))))))))))))))))))))]
theorem F_spec_l08Insert {args : List SV} {Li : List Row} {mv : List Nat} {cl : Bool} {Post : SV → List Row → Prop} (h : wpE Try.prog (lk tyList) pl_spec_l08Insert (bodyOf Try.f99) ⟨argT args, Lof Li, []⟩ (retE (lk tyList) Try.f99.results.toList Li.length mv cl Post)) (hN : args.length ≤ Try.f99.ntmps := by simp [Try.ntmps99]) :
    CallM Try.prog id_spec_l08Insert args Li mv cl Post := CallM.ofE T pl_spec_l08Insert Try.func99 (by kernel_rfl) rfl (by kernel_rfl) (by kernel_rfl) hN h
abbrev id_impl_merge : FuncId := 100
def pl_impl_merge : Nat → Option PS := plk []
theorem F_impl_merge {args : List SV} {Li : List Row} {mv : List Nat} {cl : Bool} {Post : SV → List Row → Prop} (h : wpE Try.prog (lk tyList) pl_impl_merge (bodyOf Try.f100) ⟨argT args, Lof Li, []⟩ (retE (lk tyList) Try.f100.results.toList Li.length mv cl Post)) (hN : args.length ≤ Try.f100.ntmps := by simp [Try.ntmps100]) :
    CallM Try.prog id_impl_merge args Li mv cl Post := CallM.ofE T pl_impl_merge Try.func100 (by kernel_rfl) rfl (by kernel_rfl) (by kernel_rfl) hN h
abbrev id_impl_readTwo : FuncId := 101
def pl_impl_readTwo : Nat → Option PS := plk [(13, .v 0 (.v 1 (.v 2 (.v 3 (.v 4 (.v 5 (.v 6 (.v 7 (.v 8 (.v 9 (.v 10 (.v 11 (.v 12 (.v 13 (.v 14 (.v 15 (.v 16 (.v 17 (.x 18 [] (.v 19 (.done)))))))))))))))))))))]
theorem F_impl_readTwo {args : List SV} {Li : List Row} {mv : List Nat} {cl : Bool} {Post : SV → List Row → Prop} (h : wpE Try.prog (lk tyList) pl_impl_readTwo (bodyOf Try.f101) ⟨argT args, Lof Li, []⟩ (retE (lk tyList) Try.f101.results.toList Li.length mv cl Post)) (hN : args.length ≤ Try.f101.ntmps := by simp [Try.ntmps101]) :
    CallM Try.prog id_impl_readTwo args Li mv cl Post := CallM.ofE T pl_impl_readTwo Try.func101 (by kernel_rfl) rfl (by kernel_rfl) (by kernel_rfl) hN h
abbrev id_impl_VecMeet : FuncId := 102
def pl_impl_VecMeet : Nat → Option PS := plk [(7, .v 0 (.v 1 (.v 2 (.v 3 (.v 4 (.v 5 (.v 6 (.v 7 (.v 8 (.v 9 (.v 10 (.v 11 (.v 12 (.v 13 (.x 14 [] (.done))))))))))))))))]
theorem F_impl_VecMeet {args : List SV} {Li : List Row} {mv : List Nat} {cl : Bool} {Post : SV → List Row → Prop} (h : wpE Try.prog (lk tyList) pl_impl_VecMeet (bodyOf Try.f102) ⟨argT args, Lof Li, []⟩ (retE (lk tyList) Try.f102.results.toList Li.length mv cl Post)) (hN : args.length ≤ Try.f102.ntmps := by simp [Try.ntmps102]) :
    CallM Try.prog id_impl_VecMeet args Li mv cl Post := CallM.ofE T pl_impl_VecMeet Try.func102 (by kernel_rfl) rfl (by kernel_rfl) (by kernel_rfl) hN h
abbrev id_spec_VecMeet : FuncId := 103
def pl_spec_VecMeet : Nat → Option PS := plk [(7, .v 0 (.v 1 (.v 2 (.v 3 (.v 4 (.v 5 (.v 6 (.v 7 (.v 8 (.v 9 (.v 10 (.v 11 (.v 12 (.x 13 [1, 0] (.x 14 [] (.v 15 (.x 16 [] (.done))))))))))))))))))]
theorem F_spec_VecMeet {args : List SV} {Li : List Row} {mv : List Nat} {cl : Bool} {Post : SV → List Row → Prop} (h : wpE Try.prog (lk tyList) pl_spec_VecMeet (bodyOf Try.f103) ⟨argT args, Lof Li, []⟩ (retE (lk tyList) Try.f103.results.toList Li.length mv cl Post)) (hN : args.length ≤ Try.f103.ntmps := by simp [Try.ntmps103]) :
    CallM Try.prog id_spec_VecMeet args Li mv cl Post := CallM.ofE T pl_spec_VecMeet Try.func103 (by kernel_rfl) rfl (by kernel_rfl) (by kernel_rfl) hN h
abbrev id_impl_book_ahead : FuncId := 104
def pl_impl_book_ahead : Nat → Option PS := plk []
theorem F_impl_book_ahead {args : List SV} {Li : List Row} {mv : List Nat} {cl : Bool} {Post : SV → List Row → Prop} (h : wpE Try.prog (lk tyList) pl_impl_book_ahead (bodyOf Try.f104) ⟨argT args, Lof Li, []⟩ (retE (lk tyList) Try.f104.results.toList Li.length mv cl Post)) (hN : args.length ≤ Try.f104.ntmps := by simp [Try.ntmps104]) :
    CallM Try.prog id_impl_book_ahead args Li mv cl Post := CallM.ofE T pl_impl_book_ahead Try.func104 (by kernel_rfl) rfl (by kernel_rfl) (by kernel_rfl) hN h
abbrev id_impl_opOK : FuncId := 105
def pl_impl_opOK : Nat → Option PS := plk [(1, .v 0 (.x 1 [] (.x 2 [] (.v 3 (.v 4 (.v 5 (.v 6 (.v 7 (.v 8 (.v 9 (.v 10 (.v 11 (.v 12 (.v 13 (.v 14 (.v 15 (.v 16 (.x 17 [] (.v 18 (.v 19 (.v 20 (.v 21 (.v 22 (.v 23 (.v 24 (.v 25 (.v 26 (.v 27 (.v 28 (.v 29 (.v 30 (.v 31 (.v 32 (.done)))))))))))))))))))))))))))))))))),
  (8, .v 0 (.v 1 (.v 2 (.v 3 (.v 4 (.x 5 [] (.v 6 (.v 7 (.v 8 (.v 9 (.v 10 (.x 11 [9, 8] (.x 12 [] (.v 13 (.v 14 (.v 15 (.done)))))))))))))))))]
theorem F_impl_opOK {args : List SV} {Li : List Row} {mv : List Nat} {cl : Bool} {Post : SV → List Row → Prop} (h : wpE Try.prog (lk tyList) pl_impl_opOK (bodyOf Try.f105) ⟨argT args, Lof Li, []⟩ (retE (lk tyList) Try.f105.results.toList Li.length mv cl Post)) (hN : args.length ≤ Try.f105.ntmps := by simp [Try.ntmps105]) :
    CallM Try.prog id_impl_opOK args Li mv cl Post := CallM.ofE T pl_impl_opOK Try.func105 (by kernel_rfl) rfl (by kernel_rfl) (by kernel_rfl) hN h
abbrev id_impl_book_has : FuncId := 106
def pl_impl_book_has : Nat → Option PS := plk []
theorem F_impl_book_has {args : List SV} {Li : List Row} {mv : List Nat} {cl : Bool} {Post : SV → List Row → Prop} (h : wpE Try.prog (lk tyList) pl_impl_book_has (bodyOf Try.f106) ⟨argT args, Lof Li, []⟩ (retE (lk tyList) Try.f106.results.toList Li.length mv cl Post)) (hN : args.length ≤ Try.f106.ntmps := by simp [Try.ntmps106]) :
    CallM Try.prog id_impl_book_has args Li mv cl Post := CallM.ofE T pl_impl_book_has Try.func106 (by kernel_rfl) rfl (by kernel_rfl) (by kernel_rfl) hN h
abbrev id_impl_opSame : FuncId := 107
def pl_impl_opSame : Nat → Option PS := plk []
theorem F_impl_opSame {args : List SV} {Li : List Row} {mv : List Nat} {cl : Bool} {Post : SV → List Row → Prop} (h : wpE Try.prog (lk tyList) pl_impl_opSame (bodyOf Try.f107) ⟨argT args, Lof Li, []⟩ (retE (lk tyList) Try.f107.results.toList Li.length mv cl Post)) (hN : args.length ≤ Try.f107.ntmps := by simp [Try.ntmps107]) :
    CallM Try.prog id_impl_opSame args Li mv cl Post := CallM.ofE T pl_impl_opSame Try.func107 (by kernel_rfl) rfl (by kernel_rfl) (by kernel_rfl) hN h
abbrev id_impl_book_first : FuncId := 108
def pl_impl_book_first : Nat → Option PS := plk []
theorem F_impl_book_first {args : List SV} {Li : List Row} {mv : List Nat} {cl : Bool} {Post : SV → List Row → Prop} (h : wpE Try.prog (lk tyList) pl_impl_book_first (bodyOf Try.f108) ⟨argT args, Lof Li, []⟩ (retE (lk tyList) Try.f108.results.toList Li.length mv cl Post)) (hN : args.length ≤ Try.f108.ntmps := by simp [Try.ntmps108]) :
    CallM Try.prog id_impl_book_first args Li mv cl Post := CallM.ofE T pl_impl_book_first Try.func108 (by kernel_rfl) rfl (by kernel_rfl) (by kernel_rfl) hN h
abbrev id_impl_book_put : FuncId := 109
def pl_impl_book_put : Nat → Option PS := plk [(1, .v 0 (.v 1 (.v 2 (.v 3 (.v 4 (.v 5 (.v 6 (.v 7 (.v 8 (.v 9 (.v 10 (.v 13 (.v 14 (.x 11 [14, 13, 9, 8, 7, 6, 5, 4, 3, 2, 1, 0] (.x 12 [14, 13, 2, 1, 0] (.v 15 (.x 16 [] (.done)))))))))))))))))),
  (2, .v 0 (.v 1 (.v 2 (.v 3 (.v 5 (.v 6 (.x 4 [6, 5, 2, 1, 0] (.v 7 (.x 8 [] (.done)))))))))),
  (4, .v 0 (.v 1 (.v 2 (.v 3 (.v 4 (.x 5 [3, 2, 1, 0] (.x 6 [] (.done))))))))]
theorem F_impl_book_put {args : List SV} {Li : List Row} {mv : List Nat} {cl : Bool} {Post : SV → List Row → Prop} (h : wpE Try.prog (lk tyList) pl_impl_book_put (bodyOf Try.f109) ⟨argT args, Lof Li, []⟩ (retE (lk tyList) Try.f109.results.toList Li.length mv cl Post)) (hN : args.length ≤ Try.f109.ntmps := by simp [Try.ntmps109]) :
    CallM Try.prog id_impl_book_put args Li mv cl Post := CallM.ofE T pl_impl_book_put Try.func109 (by kernel_rfl) rfl (by kernel_rfl) (by kernel_rfl) hN h
abbrev id_impl_book_log : FuncId := 110
def pl_impl_book_log : Nat → Option PS := plk []
theorem F_impl_book_log {args : List SV} {Li : List Row} {mv : List Nat} {cl : Bool} {Post : SV → List Row → Prop} (h : wpE Try.prog (lk tyList) pl_impl_book_log (bodyOf Try.f110) ⟨argT args, Lof Li, []⟩ (retE (lk tyList) Try.f110.results.toList Li.length mv cl Post)) (hN : args.length ≤ Try.f110.ntmps := by simp [Try.ntmps110]) :
    CallM Try.prog id_impl_book_log args Li mv cl Post := CallM.ofE T pl_impl_book_log Try.func110 (by kernel_rfl) rfl (by kernel_rfl) (by kernel_rfl) hN h
abbrev id_spec_l08Grow : FuncId := 111
def pl_spec_l08Grow : Nat → Option PS := plk [(7, .v 0 (.v 1 (.v 2 (.v 3 (.v 4 (.v 5 (.x 6 [4, 3, 2, 1, 0] (.v 7 (.v 8 (.x 9 [] (.v 10 (.v 11 (.v 12 (.v 13 (.v 14 (.v 15 (.v 16 (.done)))))))))))))))))),
  (10, .v 0 (.v 1 (.v 2 (.v 3 (.v 4 (.v 5 (.v 6 (.v 7 (.v 8 (.v 9 (.v 10 (.v 11 (.x 12 [5, 4, 3, 2, 1, 0] (.x 13 [1, 0] (.v 14 (.x 15 [] (.done)))))))))))))))))]
theorem F_spec_l08Grow {args : List SV} {Li : List Row} {mv : List Nat} {cl : Bool} {Post : SV → List Row → Prop} (h : wpE Try.prog (lk tyList) pl_spec_l08Grow (bodyOf Try.f111) ⟨argT args, Lof Li, []⟩ (retE (lk tyList) Try.f111.results.toList Li.length mv cl Post)) (hN : args.length ≤ Try.f111.ntmps := by simp [Try.ntmps111]) :
    CallM Try.prog id_spec_l08Grow args Li mv cl Post := CallM.ofE T pl_spec_l08Grow Try.func111 (by kernel_rfl) rfl (by kernel_rfl) (by kernel_rfl) hN h
abbrev id_spec_l08Shuffle : FuncId := 112
def pl_spec_l08Shuffle : Nat → Option PS := plk []
theorem F_spec_l08Shuffle {args : List SV} {Li : List Row} {mv : List Nat} {cl : Bool} {Post : SV → List Row → Prop} (h : wpE Try.prog (lk tyList) pl_spec_l08Shuffle (bodyOf Try.f112) ⟨argT args, Lof Li, []⟩ (retE (lk tyList) Try.f112.results.toList Li.length mv cl Post)) (hN : args.length ≤ Try.f112.ntmps := by simp [Try.ntmps112]) :
    CallM Try.prog id_spec_l08Shuffle args Li mv cl Post := CallM.ofE T pl_spec_l08Shuffle Try.func112 (by kernel_rfl) rfl (by kernel_rfl) (by kernel_rfl) hN h
abbrev id_spec_l01Src_next : FuncId := 113
def pl_spec_l01Src_next : Nat → Option PS := plk []
theorem F_spec_l01Src_next {args : List SV} {Li : List Row} {mv : List Nat} {cl : Bool} {Post : SV → List Row → Prop} (h : wpE Try.prog (lk tyList) pl_spec_l01Src_next (bodyOf Try.f113) ⟨argT args, Lof Li, []⟩ (retE (lk tyList) Try.f113.results.toList Li.length mv cl Post)) (hN : args.length ≤ Try.f113.ntmps := by simp [Try.ntmps113]) :
    CallM Try.prog id_spec_l01Src_next args Li mv cl Post := CallM.ofE T pl_spec_l01Src_next Try.func113 (by kernel_rfl) rfl (by kernel_rfl) (by kernel_rfl) hN h
abbrev id_spec_l08Bent : FuncId := 114
def pl_spec_l08Bent : Nat → Option PS := plk [(10, .v 0 (.v 1 (.v 2 (.v 3 (.x 4 [2, 1, 0] (.v 5 (.v 6 (.v 7 (.v 8 (.x 9 [] (.done)))))))))))]
theorem F_spec_l08Bent {args : List SV} {Li : List Row} {mv : List Nat} {cl : Bool} {Post : SV → List Row → Prop} (h : wpE Try.prog (lk tyList) pl_spec_l08Bent (bodyOf Try.f114) ⟨argT args, Lof Li, []⟩ (retE (lk tyList) Try.f114.results.toList Li.length mv cl Post)) (hN : args.length ≤ Try.f114.ntmps := by simp [Try.ntmps114]) :
    CallM Try.prog id_spec_l08Bent args Li mv cl Post := CallM.ofE T pl_spec_l08Bent Try.func114 (by kernel_rfl) rfl (by kernel_rfl) (by kernel_rfl) hN h
abbrev id_spec_l08Make : FuncId := 115
def pl_spec_l08Make : Nat → Option PS := plk [(8, .v 0 (.v 1 (.v 2 (.v 3 (.v 4 (.v 5 (.v 6 (.v 7 (.v 8 (.x 9 [] (.done)))))))))))]
theorem F_spec_l08Make {args : List SV} {Li : List Row} {mv : List Nat} {cl : Bool} {Post : SV → List Row → Prop} (h : wpE Try.prog (lk tyList) pl_spec_l08Make (bodyOf Try.f115) ⟨argT args, Lof Li, []⟩ (retE (lk tyList) Try.f115.results.toList Li.length mv cl Post)) (hN : args.length ≤ Try.f115.ntmps := by simp [Try.ntmps115]) :
    CallM Try.prog id_spec_l08Make args Li mv cl Post := CallM.ofE T pl_spec_l08Make Try.func115 (by kernel_rfl) rfl (by kernel_rfl) (by kernel_rfl) hN h
abbrev id_spec_l08OpOK : FuncId := 116
def pl_spec_l08OpOK : Nat → Option PS := plk [(2, .v 0 (.x 1 [] (.v 2 (.v 3 (.v 4 (.v 5 (.v 6 (.v 7 (.v 8 (.v 9 (.v 10 (.v 11 (.v 12 (.v 13 (.v 14 (.v 15 (.x 16 [] (.v 17 (.v 18 (.v 19 (.v 20 (.v 21 (.v 22 (.v 23 (.v 24 (.v 25 (.v 26 (.v 27 (.v 28 (.v 29 (.v 30 (.v 31 (.v 32 (.v 33 (.v 34 (.v 35 (.v 36 (.v 37 (.v 38 (.v 39 (.v 40 (.v 41 (.v 42 (.v 43 (.v 44 (.v 45 (.v 46 (.v 47 (.v 48 (.v 49 (.v 50 (.v 51 (.v 52 (.v 53 (.v 54 (.v 55 (.v 56 (.v 57 (.v 58 (.v 59 (.v 60 (.v 61 (.v 62 (.v 63 (.v 64 (.v 65 (.v 66 (.v 67 (.v 68 (.v 69 (.v 70 (.v 71 (.v 72 (.v 73 (.v 74 (.v 75 (.done)))))))))))))))))))))))))))))))))))))))))))))))))))))))))))))))))))))))))))))]
theorem F_spec_l08OpOK {args : List SV} {Li : List Row} {mv : List Nat} {cl : Bool} {Post : SV → List Row → Prop} (h : wpE Try.prog (lk tyList) pl_spec_l08OpOK (bodyOf Try.f116) ⟨argT args, Lof Li, []⟩ (retE (lk tyList) Try.f116.results.toList Li.length mv cl Post)) (hN : args.length ≤ Try.f116.ntmps := by simp [Try.ntmps116]) :
    CallM Try.prog id_spec_l08OpOK args Li mv cl Post := CallM.ofE T pl_spec_l08OpOK Try.func116 (by kernel_rfl) rfl (by kernel_rfl) (by kernel_rfl) hN h
abbrev id_spec_l08Find : FuncId := 117
def pl_spec_l08Find : Nat → Option PS := plk []
theorem F_spec_l08Find {args : List SV} {Li : List Row} {mv : List Nat} {cl : Bool} {Post : SV → List Row → Prop} (h : wpE Try.prog (lk tyList) pl_spec_l08Find (bodyOf Try.f117) ⟨argT args, Lof Li, []⟩ (retE (lk tyList) Try.f117.results.toList Li.length mv cl Post)) (hN : args.length ≤ Try.f117.ntmps := by simp [Try.ntmps117]) :
    CallM Try.prog id_spec_l08Find args Li mv cl Post := CallM.ofE T pl_spec_l08Find Try.func117 (by kernel_rfl) rfl (by kernel_rfl) (by kernel_rfl) hN h
abbrev id_spec_l08SameOp : FuncId := 118
def pl_spec_l08SameOp : Nat → Option PS := plk []
theorem F_spec_l08SameOp {args : List SV} {Li : List Row} {mv : List Nat} {cl : Bool} {Post : SV → List Row → Prop} (h : wpE Try.prog (lk tyList) pl_spec_l08SameOp (bodyOf Try.f118) ⟨argT args, Lof Li, []⟩ (retE (lk tyList) Try.f118.results.toList Li.length mv cl Post)) (hN : args.length ≤ Try.f118.ntmps := by simp [Try.ntmps118]) :
    CallM Try.prog id_spec_l08SameOp args Li mv cl Post := CallM.ofE T pl_spec_l08SameOp Try.func118 (by kernel_rfl) rfl (by kernel_rfl) (by kernel_rfl) hN h
abbrev id_spec_l08Causes : FuncId := 119
def pl_spec_l08Causes : Nat → Option PS := plk [(7, .v 0 (.v 1 (.v 2 (.v 3 (.v 4 (.v 5 (.v 6 (.v 11 (.x 7 [11, 3] (.v 8 (.v 9 (.x 10 [11] (.x 12 [] (.x 13 [] (.v 14 (.v 15 (.done)))))))))))))))))]
theorem F_spec_l08Causes {args : List SV} {Li : List Row} {mv : List Nat} {cl : Bool} {Post : SV → List Row → Prop} (h : wpE Try.prog (lk tyList) pl_spec_l08Causes (bodyOf Try.f119) ⟨argT args, Lof Li, []⟩ (retE (lk tyList) Try.f119.results.toList Li.length mv cl Post)) (hN : args.length ≤ Try.f119.ntmps := by simp [Try.ntmps119]) :
    CallM Try.prog id_spec_l08Causes args Li mv cl Post := CallM.ofE T pl_spec_l08Causes Try.func119 (by kernel_rfl) rfl (by kernel_rfl) (by kernel_rfl) hN h
abbrev id_spec_l08Thing : FuncId := 120
def pl_spec_l08Thing : Nat → Option PS := plk []
theorem F_spec_l08Thing {args : List SV} {Li : List Row} {mv : List Nat} {cl : Bool} {Post : SV → List Row → Prop} (h : wpE Try.prog (lk tyList) pl_spec_l08Thing (bodyOf Try.f120) ⟨argT args, Lof Li, []⟩ (retE (lk tyList) Try.f120.results.toList Li.length mv cl Post)) (hN : args.length ≤ Try.f120.ntmps := by simp [Try.ntmps120]) :
    CallM Try.prog id_spec_l08Thing args Li mv cl Post := CallM.ofE T pl_spec_l08Thing Try.func120 (by kernel_rfl) rfl (by kernel_rfl) (by kernel_rfl) hN h
abbrev id_spec_l13Read : FuncId := 121
def pl_spec_l13Read : Nat → Option PS := plk [(8, .v 0 (.v 1 (.v 2 (.v 3 (.v 7 (.v 8 (.v 9 (.v 10 (.v 11 (.v 12 (.v 13 (.v 14 (.v 15 (.v 16 (.x 4 [16, 15, 14, 13, 12, 11, 10, 9, 8, 7] (.x 5 [16, 15, 14, 13, 12, 11, 10, 9, 8, 7] (.v 6 (.v 17 (.v 18 (.done))))))))))))))))))))]
theorem F_spec_l13Read {args : List SV} {Li : List Row} {mv : List Nat} {cl : Bool} {Post : SV → List Row → Prop} (h : wpE Try.prog (lk tyList) pl_spec_l13Read (bodyOf Try.f121) ⟨argT args, Lof Li, []⟩ (retE (lk tyList) Try.f121.results.toList Li.length mv cl Post)) (hN : args.length ≤ Try.f121.ntmps := by simp [Try.ntmps121]) :
    CallM Try.prog id_spec_l13Read args Li mv cl Post := CallM.ofE T pl_spec_l13Read Try.func121 (by kernel_rfl) rfl (by kernel_rfl) (by kernel_rfl) hN h
abbrev id_impl_reader_record : FuncId := 122
def pl_impl_reader_record : Nat → Option PS := plk [(13, .v 0 (.v 1 (.v 2 (.v 3 (.v 4 (.v 5 (.v 6 (.or (.x 7 [] (.x 8 [] (.x 9 [] (.done)))) (.x 8 [6, 5, 4, 3, 2, 1, 0] (.x 7 [] (.x 9 [] (.done))))))))))))]
theorem F_impl_reader_record {args : List SV} {Li : List Row} {mv : List Nat} {cl : Bool} {Post : SV → List Row → Prop} (h : wpE Try.prog (lk tyList) pl_impl_reader_record (bodyOf Try.f122) ⟨argT args, Lof Li, []⟩ (retE (lk tyList) Try.f122.results.toList Li.length mv cl Post)) (hN : args.length ≤ Try.f122.ntmps := by simp [Try.ntmps122]) :
    CallM Try.prog id_impl_reader_record args Li mv cl Post := CallM.ofE T pl_impl_reader_record Try.func122 (by kernel_rfl) rfl (by kernel_rfl) (by kernel_rfl) hN h
abbrev id_spec_l12DrawOp : FuncId := 123
def pl_spec_l12DrawOp : Nat → Option PS := plk []
theorem F_spec_l12DrawOp {args : List SV} {Li : List Row} {mv : List Nat} {cl : Bool} {Post : SV → List Row → Prop} (h : wpE Try.prog (lk tyList) pl_spec_l12DrawOp (bodyOf Try.f123) ⟨argT args, Lof Li, []⟩ (retE (lk tyList) Try.f123.results.toList Li.length mv cl Post)) (hN : args.length ≤ Try.f123.ntmps := by simp [Try.ntmps123]) :
    CallM Try.prog id_spec_l12DrawOp args Li mv cl Post := CallM.ofE T pl_spec_l12DrawOp Try.func123 (by kernel_rfl) rfl (by kernel_rfl) (by kernel_rfl) hN h
abbrev id_impl_recordBytes : FuncId := 124
def pl_impl_recordBytes : Nat → Option PS := plk []
theorem F_impl_recordBytes {args : List SV} {Li : List Row} {mv : List Nat} {cl : Bool} {Post : SV → List Row → Prop} (h : wpE Try.prog (lk tyList) pl_impl_recordBytes (bodyOf Try.f124) ⟨argT args, Lof Li, []⟩ (retE (lk tyList) Try.f124.results.toList Li.length mv cl Post)) (hN : args.length ≤ Try.f124.ntmps := by simp [Try.ntmps124]) :
    CallM Try.prog id_impl_recordBytes args Li mv cl Post := CallM.ofE T pl_impl_recordBytes Try.func124 (by kernel_rfl) rfl (by kernel_rfl) (by kernel_rfl) hN h
abbrev id_spec_l13Bytes : FuncId := 125
def pl_spec_l13Bytes : Nat → Option PS := plk []
theorem F_spec_l13Bytes {args : List SV} {Li : List Row} {mv : List Nat} {cl : Bool} {Post : SV → List Row → Prop} (h : wpE Try.prog (lk tyList) pl_spec_l13Bytes (bodyOf Try.f125) ⟨argT args, Lof Li, []⟩ (retE (lk tyList) Try.f125.results.toList Li.length mv cl Post)) (hN : args.length ≤ Try.f125.ntmps := by simp [Try.ntmps125]) :
    CallM Try.prog id_spec_l13Bytes args Li mv cl Post := CallM.ofE T pl_spec_l13Bytes Try.func125 (by kernel_rfl) rfl (by kernel_rfl) (by kernel_rfl) hN h
abbrev id_impl_group_run : FuncId := 126
def pl_impl_group_run : Nat → Option PS := plk [(5, .v 0 (.v 1 (.v 2 (.v 3 (.v 4 (.v 5 (.v 6 (.v 7 (.done))))))))),
  (11, .v 0 (.v 1 (.v 2 (.v 3 (.v 4 (.v 5 (.x 6 [] (.done)))))))),
  (21, .v 0 (.v 1 (.v 2 (.v 3 (.v 4 (.v 5 (.x 6 [] (.done)))))))),
  (25, .v 0 (.v 1 (.v 2 (.v 3 (.v 4 (.v 5 (.v 7 (.v 8 (.x 6 [8, 7, 4, 3, 2, 1, 0] (.v 9 (.x 10 [4, 3, 2, 1, 0] (.x 11 [0] (.v 12 (.v 13 (.x 14 [] (.done)))))))))))))))),
  (33, .v 0 (.v 1 (.v 2 (.v 3 (.v 4 (.v 5 (.v 6 (.v 7 (.v 8 (.v 9 (.v 10 (.v 11 (.v 12 (.done)))))))))))))),
  (35, .v 0 (.v 1 (.v 2 (.v 3 (.v 4 (.v 5 (.v 6 (.v 7 (.v 8 (.x 9 [8, 7, 6, 5, 4, 3, 2, 1, 0] (.x 10 [] (.done)))))))))))),
  (36, .v 0 (.v 1 (.v 2 (.v 3 (.v 4 (.v 5 (.v 6 (.v 7 (.v 8 (.v 9 (.v 10 (.v 11 (.v 12 (.v 13 (.v 14 (.v 15 (.v 16 (.v 17 (.v 18 (.v 19 (.v 20 (.v 21 (.v 22 (.v 23 (.v 24 (.v 25 (.v 26 (.v 27 (.v 28 (.v 29 (.v 30 (.v 31 (.v 32 (.done))))))))))))))))))))))))))))))))))]
theorem F_impl_group_run {args : List SV} {Li : List Row} {mv : List Nat} {cl : Bool} {Post : SV → List Row → Prop} (h : wpE Try.prog (lk tyList) pl_impl_group_run (bodyOf Try.f126) ⟨argT args, Lof Li, []⟩ (retE (lk tyList) Try.f126.results.toList Li.length mv cl Post)) (hN : args.length ≤ Try.f126.ntmps := by simp [Try.ntmps126]) :
    CallM Try.prog id_impl_group_run args Li mv cl Post := CallM.ofE T pl_impl_group_run Try.func126 (by kernel_rfl) rfl (by kernel_rfl) (by kernel_rfl) hN h
abbrev id_impl_group_epoch : FuncId := 127
def pl_impl_group_epoch : Nat → Option PS := plk []
theorem F_impl_group_epoch {args : List SV} {Li : List Row} {mv : List Nat} {cl : Bool} {Post : SV → List Row → Prop} (h : wpE Try.prog (lk tyList) pl_impl_group_epoch (bodyOf Try.f127) ⟨argT args, Lof Li, []⟩ (retE (lk tyList) Try.f127.results.toList Li.length mv cl Post)) (hN : args.length ≤ Try.f127.ntmps := by simp [Try.ntmps127]) :
    CallM Try.prog id_impl_group_epoch args Li mv cl Post := CallM.ofE T pl_impl_group_epoch Try.func127 (by kernel_rfl) rfl (by kernel_rfl) (by kernel_rfl) hN h
abbrev id_spec_l03DrawSet : FuncId := 128
def pl_spec_l03DrawSet : Nat → Option PS := plk [(3, .v 0 (.v 1 (.v 2 (.v 3 (.v 4 (.v 5 (.v 6 (.v 7 (.v 8 (.v 9 (.v 10 (.x 11 [10, 9, 8, 7, 6, 5] (.x 12 [10] (.v 13 (.done)))))))))))))))]
theorem F_spec_l03DrawSet {args : List SV} {Li : List Row} {mv : List Nat} {cl : Bool} {Post : SV → List Row → Prop} (h : wpE Try.prog (lk tyList) pl_spec_l03DrawSet (bodyOf Try.f128) ⟨argT args, Lof Li, []⟩ (retE (lk tyList) Try.f128.results.toList Li.length mv cl Post)) (hN : args.length ≤ Try.f128.ntmps := by simp [Try.ntmps128]) :
    CallM Try.prog id_spec_l03DrawSet args Li mv cl Post := CallM.ofE T pl_spec_l03DrawSet Try.func128 (by kernel_rfl) rfl (by kernel_rfl) (by kernel_rfl) hN h
abbrev id_impl_stateOK : FuncId := 129
def pl_impl_stateOK : Nat → Option PS := plk [(6, .v 0 (.v 1 (.x 2 [] (.v 3 (.v 4 (.v 5 (.v 6 (.v 7 (.v 8 (.v 9 (.v 10 (.v 11 (.v 12 (.v 13 (.v 14 (.v 15 (.v 16 (.v 17 (.v 18 (.v 19 (.v 20 (.v 21 (.v 22 (.done)))))))))))))))))))))))),
  (8, .v 0 (.v 1 (.v 2 (.v 3 (.v 4 (.v 5 (.v 6 (.v 7 (.v 8 (.v 9 (.v 10 (.x 11 [] (.v 12 (.v 13 (.done)))))))))))))))]
theorem F_impl_stateOK {args : List SV} {Li : List Row} {mv : List Nat} {cl : Bool} {Post : SV → List Row → Prop} (h : wpE Try.prog (lk tyList) pl_impl_stateOK (bodyOf Try.f129) ⟨argT args, Lof Li, []⟩ (retE (lk tyList) Try.f129.results.toList Li.length mv cl Post)) (hN : args.length ≤ Try.f129.ntmps := by simp [Try.ntmps129]) :
    CallM Try.prog id_impl_stateOK args Li mv cl Post := CallM.ofE T pl_impl_stateOK Try.func129 (by kernel_rfl) rfl (by kernel_rfl) (by kernel_rfl) hN h
abbrev id_impl_joinStates : FuncId := 130
def pl_impl_joinStates : Nat → Option PS := plk [(10, .v 0 (.v 1 (.v 2 (.v 3 (.v 4 (.v 5 (.v 6 (.v 7 (.v 8 (.v 9 (.v 10 (.v 11 (.v 12 (.v 13 (.v 14 (.v 15 (.v 16 (.v 17 (.v 18 (.v 19 (.x 20 [] (.v 21 (.v 22 (.v 23 (.done))))))))))))))))))))))))),
  (11, .v 0 (.v 1 (.v 2 (.v 3 (.v 4 (.v 5 (.v 6 (.v 7 (.v 8 (.v 9 (.v 10 (.v 11 (.v 12 (.v 13 (.v 14 (.v 15 (.v 16 (.done)))))))))))))))))),
  (14, .v 0 (.v 1 (.v 2 (.v 3 (.v 4 (.v 5 (.v 6 (.v 7 (.v 8 (.v 9 (.v 10 (.v 11 (.v 12 (.v 13 (.v 14 (.x 15 [] (.v 16 (.v 17 (.done))))))))))))))))))),
  (15, .v 0 (.v 1 (.v 2 (.v 3 (.v 4 (.v 5 (.v 6 (.v 7 (.v 8 (.v 9 (.v 10 (.v 11 (.v 12 (.v 13 (.v 14 (.v 15 (.v 16 (.done)))))))))))))))))),
  (5, .v 0 (.v 1 (.v 2 (.v 3 (.v 4 (.v 5 (.v 6 (.v 7 (.done)))))))))]
theorem F_impl_joinStates {args : List SV} {Li : List Row} {mv : List Nat} {cl : Bool} {Post : SV → List Row → Prop} (h : wpE Try.prog (lk tyList) pl_impl_joinStates (bodyOf Try.f130) ⟨argT args, Lof Li, []⟩ (retE (lk tyList) Try.f130.results.toList Li.length mv cl Post)) (hN : args.length ≤ Try.f130.ntmps := by simp [Try.ntmps130]) :
    CallM Try.prog id_impl_joinStates args Li mv cl Post := CallM.ofE T pl_impl_joinStates Try.func130 (by kernel_rfl) rfl (by kernel_rfl) (by kernel_rfl) hN h
abbrev id_spec_l03Draw : FuncId := 131
def pl_spec_l03Draw : Nat → Option PS := plk [(4, .v 0 (.v 1 (.v 2 (.v 5 (.v 6 (.v 10 (.v 11 (.v 12 (.v 15 (.v 16 (.or (.x 3 [16, 15, 12, 11, 10, 6, 5, 0] (.or (.x 4 [16, 15, 12, 11, 10, 6, 5, 0] (.or (.x 7 [16, 15, 12, 11, 10, 0] (.v 8 (.or (.x 9 [16, 15, 12, 11, 10] (.or (.x 13 [16, 15, 10] (.x 14 [16, 15, 10] (.x 17 [10] (.v 18 (.x 19 [] (.x 20 [] (.x 21 [] (.done)))))))) (.x 14 [16, 15, 12, 11, 10] (.x 13 [16, 15, 10] (.x 17 [10] (.v 18 (.x 19 [] (.x 20 [] (.x 21 [] (.done)))))))))) (.x 14 [8, 16, 15, 12, 11, 10, 0] (.x 9 [16, 15, 12, 11, 10] (.x 13 [16, 15, 10] (.x 17 [10] (.v 18 (.x 19 [] (.x 20 [] (.x 21 [] (.done)))))))))))) (.x 14 [16, 15, 12, 11, 10, 6, 5, 0] (.x 7 [16, 15, 12, 11, 10, 0] (.v 8 (.x 9 [16, 15, 12, 11, 10] (.x 13 [16, 15, 10] (.x 17 [10] (.v 18 (.x 19 [] (.x 20 [] (.x 21 [] (.done))))))))))))) (.x 14 [16, 15, 12, 11, 10, 6, 5, 0] (.x 4 [16, 15, 12, 11, 10, 6, 5, 0] (.x 7 [16, 15, 12, 11, 10, 0] (.v 8 (.x 9 [16, 15, 12, 11, 10] (.x 13 [16, 15, 10] (.x 17 [10] (.v 18 (.x 19 [] (.x 20 [] (.x 21 [] (.done)))))))))))))) (.or (.x 4 [16, 15, 12, 11, 10, 6, 5, 2, 1, 0] (.or (.x 3 [16, 15, 12, 11, 10, 6, 5, 0] (.or (.x 7 [16, 15, 12, 11, 10, 0] (.v 8 (.or (.x 9 [16, 15, 12, 11, 10] (.or (.x 13 [16, 15, 10] (.x 14 [16, 15, 10] (.x 17 [10] (.v 18 (.x 19 [] (.x 20 [] (.x 21 [] (.done)))))))) (.x 14 [16, 15, 12, 11, 10] (.x 13 [16, 15, 10] (.x 17 [10] (.v 18 (.x 19 [] (.x 20 [] (.x 21 [] (.done)))))))))) (.x 14 [8, 16, 15, 12, 11, 10, 0] (.x 9 [16, 15, 12, 11, 10] (.x 13 [16, 15, 10] (.x 17 [10] (.v 18 (.x 19 [] (.x 20 [] (.x 21 [] (.done)))))))))))) (.x 14 [16, 15, 12, 11, 10, 6, 5, 0] (.x 7 [16, 15, 12, 11, 10, 0] (.v 8 (.x 9 [16, 15, 12, 11, 10] (.x 13 [16, 15, 10] (.x 17 [10] (.v 18 (.x 19 [] (.x 20 [] (.x 21 [] (.done))))))))))))) (.x 14 [16, 15, 12, 11, 10, 6, 5, 2, 1, 0] (.x 3 [16, 15, 12, 11, 10, 6, 5, 0] (.x 7 [16, 15, 12, 11, 10, 0] (.v 8 (.x 9 [16, 15, 12, 11, 10] (.x 13 [16, 15, 10] (.x 17 [10] (.v 18 (.x 19 [] (.x 20 [] (.x 21 [] (.done)))))))))))))) (.x 14 [16, 15, 12, 11, 10, 6, 5, 2, 1, 0] (.or (.x 3 [16, 15, 12, 11, 10, 6, 5, 0] (.x 4 [16, 15, 12, 11, 10, 6, 5, 0] (.x 7 [16, 15, 12, 11, 10, 0] (.v 8 (.x 9 [16, 15, 12, 11, 10] (.x 13 [16, 15, 10] (.x 17 [10] (.v 18 (.x 19 [] (.x 20 [] (.x 21 [] (.done)))))))))))) (.x 4 [16, 15, 12, 11, 10, 6, 5, 2, 1, 0] (.x 3 [16, 15, 12, 11, 10, 6, 5, 0] (.x 7 [16, 15, 12, 11, 10, 0] (.v 8 (.x 9 [16, 15, 12, 11, 10] (.x 13 [16, 15, 10] (.x 17 [10] (.v 18 (.x 19 [] (.x 20 [] (.x 21 [] (.done))))))))))))))))))))))))))]
theorem F_spec_l03Draw {args : List SV} {Li : List Row} {mv : List Nat} {cl : Bool} {Post : SV → List Row → Prop} (h : wpE Try.prog (lk tyList) pl_spec_l03Draw (bodyOf Try.f131) ⟨argT args, Lof Li, []⟩ (retE (lk tyList) Try.f131.results.toList Li.length mv cl Post)) (hN : args.length ≤ Try.f131.ntmps := by simp [Try.ntmps131]) :
    CallM Try.prog id_spec_l03Draw args Li mv cl Post := CallM.ofE T pl_spec_l03Draw Try.func131 (by kernel_rfl) rfl (by kernel_rfl) (by kernel_rfl) hN h
abbrev id_spec_l03EntriesOK : FuncId := 132
def pl_spec_l03EntriesOK : Nat → Option PS := plk [(7, .v 0 (.v 1 (.x 2 [] (.v 3 (.v 4 (.v 5 (.v 6 (.v 7 (.v 8 (.v 9 (.v 10 (.v 11 (.v 12 (.v 13 (.v 14 (.v 15 (.v 16 (.v 17 (.v 18 (.v 19 (.v 20 (.v 21 (.v 22 (.v 23 (.v 24 (.v 25 (.v 26 (.v 27 (.v 28 (.v 29 (.v 30 (.v 31 (.v 32 (.v 33 (.v 34 (.x 35 [] (.v 36 (.v 37 (.v 38 (.done))))))))))))))))))))))))))))))))))))))))]
theorem F_spec_l03EntriesOK {args : List SV} {Li : List Row} {mv : List Nat} {cl : Bool} {Post : SV → List Row → Prop} (h : wpE Try.prog (lk tyList) pl_spec_l03EntriesOK (bodyOf Try.f132) ⟨argT args, Lof Li, []⟩ (retE (lk tyList) Try.f132.results.toList Li.length mv cl Post)) (hN : args.length ≤ Try.f132.ntmps := by simp [Try.ntmps132]) :
    CallM Try.prog id_spec_l03EntriesOK args Li mv cl Post := CallM.ofE T pl_spec_l03EntriesOK Try.func132 (by kernel_rfl) rfl (by kernel_rfl) (by kernel_rfl) hN h
abbrev id_spec_l03Join : FuncId := 133
def pl_spec_l03Join : Nat → Option PS := plk [(7, .v 0 (.v 1 (.v 2 (.v 3 (.v 4 (.v 5 (.v 6 (.v 7 (.v 8 (.v 9 (.v 10 (.v 11 (.done))))))))))))),
  (9, .v 0 (.v 1 (.v 2 (.v 3 (.v 4 (.v 5 (.v 6 (.v 7 (.v 8 (.v 9 (.v 10 (.v 11 (.v 12 (.v 13 (.v 14 (.done)))))))))))))))),
  (14, .v 0 (.v 1 (.v 2 (.v 3 (.v 4 (.v 5 (.x 6 [] (.v 7 (.v 8 (.v 9 (.v 10 (.v 11 (.v 12 (.v 13 (.v 14 (.v 15 (.v 16 (.v 17 (.v 18 (.v 19 (.v 20 (.v 21 (.v 22 (.v 23 (.v 24 (.v 25 (.v 26 (.done))))))))))))))))))))))))))))]
theorem F_spec_l03Join {args : List SV} {Li : List Row} {mv : List Nat} {cl : Bool} {Post : SV → List Row → Prop} (h : wpE Try.prog (lk tyList) pl_spec_l03Join (bodyOf Try.f133) ⟨argT args, Lof Li, []⟩ (retE (lk tyList) Try.f133.results.toList Li.length mv cl Post)) (hN : args.length ≤ Try.f133.ntmps := by simp [Try.ntmps133]) :
    CallM Try.prog id_spec_l03Join args Li mv cl Post := CallM.ofE T pl_spec_l03Join Try.func133 (by kernel_rfl) rfl (by kernel_rfl) (by kernel_rfl) hN h
abbrev id_spec_l02Join : FuncId := 134
def pl_spec_l02Join : Nat → Option PS := plk [(5, .v 0 (.v 1 (.v 2 (.v 3 (.v 4 (.v 5 (.v 6 (.v 7 (.v 8 (.v 9 (.v 10 (.v 11 (.v 12 (.x 13 [1, 0] (.x 14 [] (.v 15 (.x 16 [] (.done))))))))))))))))))]
theorem F_spec_l02Join {args : List SV} {Li : List Row} {mv : List Nat} {cl : Bool} {Post : SV → List Row → Prop} (h : wpE Try.prog (lk tyList) pl_spec_l02Join (bodyOf Try.f134) ⟨argT args, Lof Li, []⟩ (retE (lk tyList) Try.f134.results.toList Li.length mv cl Post)) (hN : args.length ≤ Try.f134.ntmps := by simp [Try.ntmps134]) :
    CallM Try.prog id_spec_l02Join args Li mv cl Post := CallM.ofE T pl_spec_l02Join Try.func134 (by kernel_rfl) rfl (by kernel_rfl) (by kernel_rfl) hN h
abbrev id_laws_szVector : FuncId := 135
def pl_laws_szVector : Nat → Option PS := plk []
theorem F_laws_szVector {args : List SV} {Li : List Row} {mv : List Nat} {cl : Bool} {Post : SV → List Row → Prop} (h : wpE Try.prog (lk tyList) pl_laws_szVector (bodyOf Try.f135) ⟨argT args, Lof Li, []⟩ (retE (lk tyList) Try.f135.results.toList Li.length mv cl Post)) (hN : args.length ≤ Try.f135.ntmps := by simp [Try.ntmps135]) :
    CallM Try.prog id_laws_szVector args Li mv cl Post := CallM.ofE T pl_laws_szVector Try.func135 (by kernel_rfl) rfl (by kernel_rfl) (by kernel_rfl) hN h
abbrev id_spec_l01PutRuns : FuncId := 136
def pl_spec_l01PutRuns : Nat → Option PS := plk [(5, .v 0 (.v 1 (.v 2 (.v 3 (.v 4 (.v 5 (.v 6 (.v 7 (.v 8 (.v 9 (.v 10 (.v 11 (.v 12 (.v 13 (.v 14 (.v 15 (.v 16 (.v 17 (.v 18 (.v 19 (.v 20 (.v 21 (.v 22 (.v 23 (.v 24 (.v 25 (.v 26 (.v 27 (.v 28 (.v 29 (.v 30 (.v 31 (.v 32 (.done)))))))))))))))))))))))))))))))))),
  (10, .v 0 (.v 1 (.v 2 (.v 3 (.v 4 (.v 5 (.v 6 (.v 7 (.v 8 (.v 9 (.v 10 (.x 11 [0] (.x 12 [] (.v 13 (.done)))))))))))))))]
theorem F_spec_l01PutRuns {args : List SV} {Li : List Row} {mv : List Nat} {cl : Bool} {Post : SV → List Row → Prop} (h : wpE Try.prog (lk tyList) pl_spec_l01PutRuns (bodyOf Try.f136) ⟨argT args, Lof Li, []⟩ (retE (lk tyList) Try.f136.results.toList Li.length mv cl Post)) (hN : args.length ≤ Try.f136.ntmps := by simp [Try.ntmps136]) :
    CallM Try.prog id_spec_l01PutRuns args Li mv cl Post := CallM.ofE T pl_spec_l01PutRuns Try.func136 (by kernel_rfl) rfl (by kernel_rfl) (by kernel_rfl) hN h
abbrev id_spec_l08Column : FuncId := 137
def pl_spec_l08Column : Nat → Option PS := plk []
theorem F_spec_l08Column {args : List SV} {Li : List Row} {mv : List Nat} {cl : Bool} {Post : SV → List Row → Prop} (h : wpE Try.prog (lk tyList) pl_spec_l08Column (bodyOf Try.f137) ⟨argT args, Lof Li, []⟩ (retE (lk tyList) Try.f137.results.toList Li.length mv cl Post)) (hN : args.length ≤ Try.f137.ntmps := by simp [Try.ntmps137]) :
    CallM Try.prog id_spec_l08Column args Li mv cl Post := CallM.ofE T pl_spec_l08Column Try.func137 (by kernel_rfl) rfl (by kernel_rfl) (by kernel_rfl) hN h
abbrev id_spec_l01PutTexts : FuncId := 138
def pl_spec_l01PutTexts : Nat → Option PS := plk []
theorem F_spec_l01PutTexts {args : List SV} {Li : List Row} {mv : List Nat} {cl : Bool} {Post : SV → List Row → Prop} (h : wpE Try.prog (lk tyList) pl_spec_l01PutTexts (bodyOf Try.f138) ⟨argT args, Lof Li, []⟩ (retE (lk tyList) Try.f138.results.toList Li.length mv cl Post)) (hN : args.length ≤ Try.f138.ntmps := by simp [Try.ntmps138]) :
    CallM Try.prog id_spec_l01PutTexts args Li mv cl Post := CallM.ofE T pl_spec_l01PutTexts Try.func138 (by kernel_rfl) rfl (by kernel_rfl) (by kernel_rfl) hN h
abbrev id_laws_toVector : FuncId := 139
def pl_laws_toVector : Nat → Option PS := plk []
theorem F_laws_toVector {args : List SV} {Li : List Row} {mv : List Nat} {cl : Bool} {Post : SV → List Row → Prop} (h : wpE Try.prog (lk tyList) pl_laws_toVector (bodyOf Try.f139) ⟨argT args, Lof Li, []⟩ (retE (lk tyList) Try.f139.results.toList Li.length mv cl Post)) (hN : args.length ≤ Try.f139.ntmps := by simp [Try.ntmps139]) :
    CallM Try.prog id_laws_toVector args Li mv cl Post := CallM.ofE T pl_laws_toVector Try.func139 (by kernel_rfl) rfl (by kernel_rfl) (by kernel_rfl) hN h
abbrev id_laws_toStamp : FuncId := 140
def pl_laws_toStamp : Nat → Option PS := plk []
theorem F_laws_toStamp {args : List SV} {Li : List Row} {mv : List Nat} {cl : Bool} {Post : SV → List Row → Prop} (h : wpE Try.prog (lk tyList) pl_laws_toStamp (bodyOf Try.f140) ⟨argT args, Lof Li, []⟩ (retE (lk tyList) Try.f140.results.toList Li.length mv cl Post)) (hN : args.length ≤ Try.f140.ntmps := by simp [Try.ntmps140]) :
    CallM Try.prog id_laws_toStamp args Li mv cl Post := CallM.ofE T pl_laws_toStamp Try.func140 (by kernel_rfl) rfl (by kernel_rfl) (by kernel_rfl) hN h
abbrev id_impl_Op_numbers : FuncId := 141
def pl_impl_Op_numbers : Nat → Option PS := plk [(1, .v 0 (.v 1 (.v 2 (.v 3 (.v 4 (.v 5 (.v 6 (.v 7 (.v 8 (.v 9 (.v 10 (.v 11 (.v 13 (.v 14 (.v 15 (.v 16 (.v 17 (.v 18 (.v 19 (.v 20 (.x 12 [20, 19, 18, 17, 16, 15, 14, 13, 9, 8, 7, 6, 5, 4, 3, 2, 1, 0] (.v 21 (.x 22 [] (.done))))))))))))))))))))))))]
theorem F_impl_Op_numbers {args : List SV} {Li : List Row} {mv : List Nat} {cl : Bool} {Post : SV → List Row → Prop} (h : wpE Try.prog (lk tyList) pl_impl_Op_numbers (bodyOf Try.f141) ⟨argT args, Lof Li, []⟩ (retE (lk tyList) Try.f141.results.toList Li.length mv cl Post)) (hN : args.length ≤ Try.f141.ntmps := by simp [Try.ntmps141]) :
    CallM Try.prog id_impl_Op_numbers args Li mv cl Post := CallM.ofE T pl_impl_Op_numbers Try.func141 (by kernel_rfl) rfl (by kernel_rfl) (by kernel_rfl) hN h
abbrev id_impl_appendRuns : FuncId := 142
def pl_impl_appendRuns : Nat → Option PS := plk [(8, .v 0 (.v 1 (.v 2 (.v 3 (.v 4 (.v 5 (.v 6 (.v 7 (.v 8 (.v 9 (.v 10 (.x 11 [0] (.x 12 [] (.v 13 (.done)))))))))))))))]
theorem F_impl_appendRuns {args : List SV} {Li : List Row} {mv : List Nat} {cl : Bool} {Post : SV → List Row → Prop} (h : wpE Try.prog (lk tyList) pl_impl_appendRuns (bodyOf Try.f142) ⟨argT args, Lof Li, []⟩ (retE (lk tyList) Try.f142.results.toList Li.length mv cl Post)) (hN : args.length ≤ Try.f142.ntmps := by simp [Try.ntmps142]) :
    CallM Try.prog id_impl_appendRuns args Li mv cl Post := CallM.ofE T pl_impl_appendRuns Try.func142 (by kernel_rfl) rfl (by kernel_rfl) (by kernel_rfl) hN h
abbrev id_impl_appendTexts : FuncId := 143
def pl_impl_appendTexts : Nat → Option PS := plk []
theorem F_impl_appendTexts {args : List SV} {Li : List Row} {mv : List Nat} {cl : Bool} {Post : SV → List Row → Prop} (h : wpE Try.prog (lk tyList) pl_impl_appendTexts (bodyOf Try.f143) ⟨argT args, Lof Li, []⟩ (retE (lk tyList) Try.f143.results.toList Li.length mv cl Post)) (hN : args.length ≤ Try.f143.ntmps := by simp [Try.ntmps143]) :
    CallM Try.prog id_impl_appendTexts args Li mv cl Post := CallM.ofE T pl_impl_appendTexts Try.func143 (by kernel_rfl) rfl (by kernel_rfl) (by kernel_rfl) hN h
abbrev id_laws_eqVector : FuncId := 144
def pl_laws_eqVector : Nat → Option PS := plk []
theorem F_laws_eqVector {args : List SV} {Li : List Row} {mv : List Nat} {cl : Bool} {Post : SV → List Row → Prop} (h : wpE Try.prog (lk tyList) pl_laws_eqVector (bodyOf Try.f144) ⟨argT args, Lof Li, []⟩ (retE (lk tyList) Try.f144.results.toList Li.length mv cl Post)) (hN : args.length ≤ Try.f144.ntmps := by simp [Try.ntmps144]) :
    CallM Try.prog id_laws_eqVector args Li mv cl Post := CallM.ofE T pl_laws_eqVector Try.func144 (by kernel_rfl) rfl (by kernel_rfl) (by kernel_rfl) hN h
abbrev id_laws_eqStamp : FuncId := 145
def pl_laws_eqStamp : Nat → Option PS := plk []
theorem F_laws_eqStamp {args : List SV} {Li : List Row} {mv : List Nat} {cl : Bool} {Post : SV → List Row → Prop} (h : wpE Try.prog (lk tyList) pl_laws_eqStamp (bodyOf Try.f145) ⟨argT args, Lof Li, []⟩ (retE (lk tyList) Try.f145.results.toList Li.length mv cl Post)) (hN : args.length ≤ Try.f145.ntmps := by simp [Try.ntmps145]) :
    CallM Try.prog id_laws_eqStamp args Li mv cl Post := CallM.ofE T pl_laws_eqStamp Try.func145 (by kernel_rfl) rfl (by kernel_rfl) (by kernel_rfl) hN h
abbrev id_spec_l12Bytes : FuncId := 146
def pl_spec_l12Bytes : Nat → Option PS := plk [(1, .v 0 (.v 1 (.v 2 (.v 3 (.v 4 (.v 5 (.v 6 (.v 7 (.v 8 (.v 9 (.v 10 (.v 11 (.v 13 (.v 14 (.v 15 (.v 16 (.v 17 (.v 18 (.v 19 (.v 20 (.x 12 [20, 19, 18, 17, 16, 15, 14, 13, 9, 8, 7, 6, 5, 4, 3, 2, 1, 0] (.x 21 [] (.v 22 (.done)))))))))))))))))))))))),
  (3, .v 0 (.v 2 (.v 3 (.v 4 (.v 5 (.or (.x 1 [5, 4, 3, 2] (.x 6 [] (.x 7 [] (.x 8 [] (.v 9 (.done)))))) (.x 6 [0] (.x 1 [] (.x 7 [] (.x 8 [] (.v 9 (.done))))))))))))]
theorem F_spec_l12Bytes {args : List SV} {Li : List Row} {mv : List Nat} {cl : Bool} {Post : SV → List Row → Prop} (h : wpE Try.prog (lk tyList) pl_spec_l12Bytes (bodyOf Try.f146) ⟨argT args, Lof Li, []⟩ (retE (lk tyList) Try.f146.results.toList Li.length mv cl Post)) (hN : args.length ≤ Try.f146.ntmps := by simp [Try.ntmps146]) :
    CallM Try.prog id_spec_l12Bytes args Li mv cl Post := CallM.ofE T pl_spec_l12Bytes Try.func146 (by kernel_rfl) rfl (by kernel_rfl) (by kernel_rfl) hN h
abbrev id_impl_Op_thing : FuncId := 147
def pl_impl_Op_thing : Nat → Option PS := plk []
theorem F_impl_Op_thing {args : List SV} {Li : List Row} {mv : List Nat} {cl : Bool} {Post : SV → List Row → Prop} (h : wpE Try.prog (lk tyList) pl_impl_Op_thing (bodyOf Try.f147) ⟨argT args, Lof Li, []⟩ (retE (lk tyList) Try.f147.results.toList Li.length mv cl Post)) (hN : args.length ≤ Try.f147.ntmps := by simp [Try.ntmps147]) :
    CallM Try.prog id_impl_Op_thing args Li mv cl Post := CallM.ofE T pl_impl_Op_thing Try.func147 (by kernel_rfl) rfl (by kernel_rfl) (by kernel_rfl) hN h
abbrev id_impl_StampLess : FuncId := 148
def pl_impl_StampLess : Nat → Option PS := plk []
theorem F_impl_StampLess {args : List SV} {Li : List Row} {mv : List Nat} {cl : Bool} {Post : SV → List Row → Prop} (h : wpE Try.prog (lk tyList) pl_impl_StampLess (bodyOf Try.f148) ⟨argT args, Lof Li, []⟩ (retE (lk tyList) Try.f148.results.toList Li.length mv cl Post)) (hN : args.length ≤ Try.f148.ntmps := by simp [Try.ntmps148]) :
    CallM Try.prog id_impl_StampLess args Li mv cl Post := CallM.ofE T pl_impl_StampLess Try.func148 (by kernel_rfl) rfl (by kernel_rfl) (by kernel_rfl) hN h
abbrev id_impl_Op_stamp : FuncId := 149
def pl_impl_Op_stamp : Nat → Option PS := plk []
theorem F_impl_Op_stamp {args : List SV} {Li : List Row} {mv : List Nat} {cl : Bool} {Post : SV → List Row → Prop} (h : wpE Try.prog (lk tyList) pl_impl_Op_stamp (bodyOf Try.f149) ⟨argT args, Lof Li, []⟩ (retE (lk tyList) Try.f149.results.toList Li.length mv cl Post)) (hN : args.length ≤ Try.f149.ntmps := by simp [Try.ntmps149]) :
    CallM Try.prog id_impl_Op_stamp args Li mv cl Post := CallM.ofE T pl_impl_Op_stamp Try.func149 (by kernel_rfl) rfl (by kernel_rfl) (by kernel_rfl) hN h
abbrev id_impl_sum32 : FuncId := 150
def pl_impl_sum32 : Nat → Option PS := plk []
theorem F_impl_sum32 {args : List SV} {Li : List Row} {mv : List Nat} {cl : Bool} {Post : SV → List Row → Prop} (h : wpE Try.prog (lk tyList) pl_impl_sum32 (bodyOf Try.f150) ⟨argT args, Lof Li, []⟩ (retE (lk tyList) Try.f150.results.toList Li.length mv cl Post)) (hN : args.length ≤ Try.f150.ntmps := by simp [Try.ntmps150]) :
    CallM Try.prog id_impl_sum32 args Li mv cl Post := CallM.ofE T pl_impl_sum32 Try.func150 (by kernel_rfl) rfl (by kernel_rfl) (by kernel_rfl) hN h
abbrev id_impl_opBytes : FuncId := 151
def pl_impl_opBytes : Nat → Option PS := plk [(2, .v 0 (.v 1 (.v 2 (.v 3 (.x 4 [] (.x 5 [] (.v 6 (.done))))))))]
theorem F_impl_opBytes {args : List SV} {Li : List Row} {mv : List Nat} {cl : Bool} {Post : SV → List Row → Prop} (h : wpE Try.prog (lk tyList) pl_impl_opBytes (bodyOf Try.f151) ⟨argT args, Lof Li, []⟩ (retE (lk tyList) Try.f151.results.toList Li.length mv cl Post)) (hN : args.length ≤ Try.f151.ntmps := by simp [Try.ntmps151]) :
    CallM Try.prog id_impl_opBytes args Li mv cl Post := CallM.ofE T pl_impl_opBytes Try.func151 (by kernel_rfl) rfl (by kernel_rfl) (by kernel_rfl) hN h
abbrev id_spec_l01Reader_count : FuncId := 152
def pl_spec_l01Reader_count : Nat → Option PS := plk []
theorem F_spec_l01Reader_count {args : List SV} {Li : List Row} {mv : List Nat} {cl : Bool} {Post : SV → List Row → Prop} (h : wpE Try.prog (lk tyList) pl_spec_l01Reader_count (bodyOf Try.f152) ⟨argT args, Lof Li, []⟩ (retE (lk tyList) Try.f152.results.toList Li.length mv cl Post)) (hN : args.length ≤ Try.f152.ntmps := by simp [Try.ntmps152]) :
    CallM Try.prog id_spec_l01Reader_count args Li mv cl Post := CallM.ofE T pl_spec_l01Reader_count Try.func152 (by kernel_rfl) rfl (by kernel_rfl) (by kernel_rfl) hN h
abbrev id_spec_l01Reader_num : FuncId := 153
def pl_spec_l01Reader_num : Nat → Option PS := plk [(3, .v 0 (.v 1 (.v 2 (.v 3 (.v 4 (.v 5 (.v 6 (.v 7 (.x 8 [] (.v 9 (.v 10 (.v 11 (.v 12 (.v 13 (.v 14 (.v 15 (.done)))))))))))))))))]
theorem F_spec_l01Reader_num {args : List SV} {Li : List Row} {mv : List Nat} {cl : Bool} {Post : SV → List Row → Prop} (h : wpE Try.prog (lk tyList) pl_spec_l01Reader_num (bodyOf Try.f153) ⟨argT args, Lof Li, []⟩ (retE (lk tyList) Try.f153.results.toList Li.length mv cl Post)) (hN : args.length ≤ Try.f153.ntmps := by simp [Try.ntmps153]) :
    CallM Try.prog id_spec_l01Reader_num args Li mv cl Post := CallM.ofE T pl_spec_l01Reader_num Try.func153 (by kernel_rfl) rfl (by kernel_rfl) (by kernel_rfl) hN h
abbrev id_spec_l01Reader_take : FuncId := 154
def pl_spec_l01Reader_take : Nat → Option PS := plk [(1, .v 0 (.v 1 (.v 2 (.v 3 (.v 4 (.v 5 (.v 6 (.v 7 (.v 8 (.v 9 (.v 10 (.v 11 (.v 12 (.v 13 (.v 14 (.v 15 (.v 16 (.v 17 (.done))))))))))))))))))),
  (5, .v 0 (.v 1 (.v 2 (.v 3 (.v 4 (.v 5 (.v 6 (.v 7 (.v 8 (.v 9 (.v 10 (.v 11 (.v 12 (.v 13 (.v 14 (.v 15 (.v 16 (.done))))))))))))))))))]
theorem F_spec_l01Reader_take {args : List SV} {Li : List Row} {mv : List Nat} {cl : Bool} {Post : SV → List Row → Prop} (h : wpE Try.prog (lk tyList) pl_spec_l01Reader_take (bodyOf Try.f154) ⟨argT args, Lof Li, []⟩ (retE (lk tyList) Try.f154.results.toList Li.length mv cl Post)) (hN : args.length ≤ Try.f154.ntmps := by simp [Try.ntmps154]) :
    CallM Try.prog id_spec_l01Reader_take args Li mv cl Post := CallM.ofE T pl_spec_l01Reader_take Try.func154 (by kernel_rfl) rfl (by kernel_rfl) (by kernel_rfl) hN h
abbrev id_spec_l01Alike : FuncId := 155
def pl_spec_l01Alike : Nat → Option PS := plk [(2, .v 0 (.v 1 (.v 2 (.v 3 (.v 4 (.v 5 (.v 6 (.v 7 (.v 8 (.v 9 (.v 10 (.v 11 (.v 12 (.v 13 (.v 14 (.v 15 (.v 16 (.v 17 (.v 18 (.done))))))))))))))))))))]
theorem F_spec_l01Alike {args : List SV} {Li : List Row} {mv : List Nat} {cl : Bool} {Post : SV → List Row → Prop} (h : wpE Try.prog (lk tyList) pl_spec_l01Alike (bodyOf Try.f155) ⟨argT args, Lof Li, []⟩ (retE (lk tyList) Try.f155.results.toList Li.length mv cl Post)) (hN : args.length ≤ Try.f155.ntmps := by simp [Try.ntmps155]) :
    CallM Try.prog id_spec_l01Alike args Li mv cl Post := CallM.ofE T pl_spec_l01Alike Try.func155 (by kernel_rfl) rfl (by kernel_rfl) (by kernel_rfl) hN h
abbrev id_impl_reader_num : FuncId := 156
def pl_impl_reader_num : Nat → Option PS := plk [(3, .v 0 (.v 1 (.v 2 (.v 3 (.v 4 (.v 5 (.v 6 (.v 7 (.v 8 (.v 9 (.v 10 (.v 11 (.v 12 (.v 13 (.done))))))))))))))),
  (6, .v 0 (.v 1 (.v 2 (.v 3 (.v 4 (.v 5 (.v 6 (.v 7 (.v 8 (.v 9 (.v 10 (.done))))))))))))]
theorem F_impl_reader_num {args : List SV} {Li : List Row} {mv : List Nat} {cl : Bool} {Post : SV → List Row → Prop} (h : wpE Try.prog (lk tyList) pl_impl_reader_num (bodyOf Try.f156) ⟨argT args, Lof Li, []⟩ (retE (lk tyList) Try.f156.results.toList Li.length mv cl Post)) (hN : args.length ≤ Try.f156.ntmps := by simp [Try.ntmps156]) :
    CallM Try.prog id_impl_reader_num args Li mv cl Post := CallM.ofE T pl_impl_reader_num Try.func156 (by kernel_rfl) rfl (by kernel_rfl) (by kernel_rfl) hN h
abbrev id_impl_zag : FuncId := 157
def pl_impl_zag : Nat → Option PS := plk []
theorem F_impl_zag {args : List SV} {Li : List Row} {mv : List Nat} {cl : Bool} {Post : SV → List Row → Prop} (h : wpE Try.prog (lk tyList) pl_impl_zag (bodyOf Try.f157) ⟨argT args, Lof Li, []⟩ (retE (lk tyList) Try.f157.results.toList Li.length mv cl Post)) (hN : args.length ≤ Try.f157.ntmps := by simp [Try.ntmps157]) :
    CallM Try.prog id_impl_zag args Li mv cl Post := CallM.ofE T pl_impl_zag Try.func157 (by kernel_rfl) rfl (by kernel_rfl) (by kernel_rfl) hN h
abbrev id_impl_reader_text : FuncId := 158
def pl_impl_reader_text : Nat → Option PS := plk [(1, .v 0 (.v 1 (.v 2 (.v 3 (.v 4 (.v 5 (.v 6 (.v 7 (.v 8 (.v 9 (.v 10 (.v 11 (.v 12 (.v 13 (.v 14 (.v 15 (.v 16 (.v 17 (.v 18 (.v 19 (.v 20 (.v 21 (.done))))))))))))))))))))))),
  (4, .v 0 (.v 1 (.v 2 (.v 3 (.v 4 (.v 5 (.v 6 (.v 7 (.v 8 (.v 9 (.v 10 (.v 11 (.v 12 (.v 13 (.v 14 (.v 15 (.v 16 (.done))))))))))))))))))]
theorem F_impl_reader_text {args : List SV} {Li : List Row} {mv : List Nat} {cl : Bool} {Post : SV → List Row → Prop} (h : wpE Try.prog (lk tyList) pl_impl_reader_text (bodyOf Try.f158) ⟨argT args, Lof Li, []⟩ (retE (lk tyList) Try.f158.results.toList Li.length mv cl Post)) (hN : args.length ≤ Try.f158.ntmps := by simp [Try.ntmps158]) :
    CallM Try.prog id_impl_reader_text args Li mv cl Post := CallM.ofE T pl_impl_reader_text Try.func158 (by kernel_rfl) rfl (by kernel_rfl) (by kernel_rfl) hN h
abbrev id_impl_common : FuncId := 159
def pl_impl_common : Nat → Option PS := plk [(2, .v 0 (.v 1 (.v 2 (.v 3 (.v 4 (.v 5 (.v 6 (.v 7 (.v 8 (.v 9 (.v 10 (.v 11 (.v 12 (.v 13 (.v 14 (.v 15 (.v 16 (.v 17 (.v 18 (.done))))))))))))))))))))]
theorem F_impl_common {args : List SV} {Li : List Row} {mv : List Nat} {cl : Bool} {Post : SV → List Row → Prop} (h : wpE Try.prog (lk tyList) pl_impl_common (bodyOf Try.f159) ⟨argT args, Lof Li, []⟩ (retE (lk tyList) Try.f159.results.toList Li.length mv cl Post)) (hN : args.length ≤ Try.f159.ntmps := by simp [Try.ntmps159]) :
    CallM Try.prog id_impl_common args Li mv cl Post := CallM.ofE T pl_impl_common Try.func159 (by kernel_rfl) rfl (by kernel_rfl) (by kernel_rfl) hN h
abbrev id_spec_l01Src_vector : FuncId := 160
def pl_spec_l01Src_vector : Nat → Option PS := plk [(5, .v 0 (.v 1 (.v 2 (.v 3 (.x 4 [2, 1, 0] (.v 5 (.x 6 [] (.done))))))))]
theorem F_spec_l01Src_vector {args : List SV} {Li : List Row} {mv : List Nat} {cl : Bool} {Post : SV → List Row → Prop} (h : wpE Try.prog (lk tyList) pl_spec_l01Src_vector (bodyOf Try.f160) ⟨argT args, Lof Li, []⟩ (retE (lk tyList) Try.f160.results.toList Li.length mv cl Post)) (hN : args.length ≤ Try.f160.ntmps := by simp [Try.ntmps160]) :
    CallM Try.prog id_spec_l01Src_vector args Li mv cl Post := CallM.ofE T pl_spec_l01Src_vector Try.func160 (by kernel_rfl) rfl (by kernel_rfl) (by kernel_rfl) hN h
abbrev id_impl_vecCopy : FuncId := 161
def pl_impl_vecCopy : Nat → Option PS := plk []
theorem F_impl_vecCopy {args : List SV} {Li : List Row} {mv : List Nat} {cl : Bool} {Post : SV → List Row → Prop} (h : wpE Try.prog (lk tyList) pl_impl_vecCopy (bodyOf Try.f161) ⟨argT args, Lof Li, []⟩ (retE (lk tyList) Try.f161.results.toList Li.length mv cl Post)) (hN : args.length ≤ Try.f161.ntmps := by simp [Try.ntmps161]) :
    CallM Try.prog id_impl_vecCopy args Li mv cl Post := CallM.ofE T pl_impl_vecCopy Try.func161 (by kernel_rfl) rfl (by kernel_rfl) (by kernel_rfl) hN h
abbrev id_spec_l02Copy : FuncId := 162
def pl_spec_l02Copy : Nat → Option PS := plk []
theorem F_spec_l02Copy {args : List SV} {Li : List Row} {mv : List Nat} {cl : Bool} {Post : SV → List Row → Prop} (h : wpE Try.prog (lk tyList) pl_spec_l02Copy (bodyOf Try.f162) ⟨argT args, Lof Li, []⟩ (retE (lk tyList) Try.f162.results.toList Li.length mv cl Post)) (hN : args.length ≤ Try.f162.ntmps := by simp [Try.ntmps162]) :
    CallM Try.prog id_spec_l02Copy args Li mv cl Post := CallM.ofE T pl_spec_l02Copy Try.func162 (by kernel_rfl) rfl (by kernel_rfl) (by kernel_rfl) hN h
abbrev id_spec_l08Some : FuncId := 163
def pl_spec_l08Some : Nat → Option PS := plk [(4, .v 0 (.v 1 (.v 2 (.v 6 (.v 10 (.or (.x 3 [10, 6, 1, 0] (.v 4 (.or (.x 5 [4, 10, 6, 1, 0] (.x 7 [4, 10, 1, 0] (.v 8 (.v 9 (.x 11 [9, 8, 4, 1, 0] (.v 12 (.x 13 [] (.x 14 [] (.done))))))))) (.x 7 [4, 10, 1, 0] (.or (.x 5 [4, 10, 1, 0] (.v 8 (.v 9 (.x 11 [9, 8, 4, 1, 0] (.v 12 (.x 13 [] (.x 14 [] (.done)))))))) (.x 11 [4, 1, 0] (.x 5 [4, 1, 0] (.v 8 (.v 9 (.v 12 (.x 13 [] (.x 14 [] (.done))))))))))))) (.x 5 [10, 6, 2, 1, 0] (.x 3 [10, 6, 1, 0] (.v 4 (.x 7 [4, 10, 1, 0] (.v 8 (.v 9 (.x 11 [9, 8, 4, 1, 0] (.v 12 (.x 13 [] (.x 14 [] (.done)))))))))))))))))]
theorem F_spec_l08Some {args : List SV} {Li : List Row} {mv : List Nat} {cl : Bool} {Post : SV → List Row → Prop} (h : wpE Try.prog (lk tyList) pl_spec_l08Some (bodyOf Try.f163) ⟨argT args, Lof Li, []⟩ (retE (lk tyList) Try.f163.results.toList Li.length mv cl Post)) (hN : args.length ≤ Try.f163.ntmps := by simp [Try.ntmps163]) :
    CallM Try.prog id_spec_l08Some args Li mv cl Post := CallM.ofE T pl_spec_l08Some Try.func163 (by kernel_rfl) rfl (by kernel_rfl) (by kernel_rfl) hN h
abbrev id_spec_l02New : FuncId := 164
def pl_spec_l02New : Nat → Option PS := plk []
theorem F_spec_l02New {args : List SV} {Li : List Row} {mv : List Nat} {cl : Bool} {Post : SV → List Row → Prop} (h : wpE Try.prog (lk tyList) pl_spec_l02New (bodyOf Try.f164) ⟨argT args, Lof Li, []⟩ (retE (lk tyList) Try.f164.results.toList Li.length mv cl Post)) (hN : args.length ≤ Try.f164.ntmps := by simp [Try.ntmps164]) :
    CallM Try.prog id_spec_l02New args Li mv cl Post := CallM.ofE T pl_spec_l02New Try.func164 (by kernel_rfl) rfl (by kernel_rfl) (by kernel_rfl) hN h
abbrev id_impl_StampOK : FuncId := 165
def pl_impl_StampOK : Nat → Option PS := plk []
theorem F_impl_StampOK {args : List SV} {Li : List Row} {mv : List Nat} {cl : Bool} {Post : SV → List Row → Prop} (h : wpE Try.prog (lk tyList) pl_impl_StampOK (bodyOf Try.f165) ⟨argT args, Lof Li, []⟩ (retE (lk tyList) Try.f165.results.toList Li.length mv cl Post)) (hN : args.length ≤ Try.f165.ntmps := by simp [Try.ntmps165]) :
    CallM Try.prog id_impl_StampOK args Li mv cl Post := CallM.ofE T pl_impl_StampOK Try.func165 (by kernel_rfl) rfl (by kernel_rfl) (by kernel_rfl) hN h
abbrev id_impl_charOK : FuncId := 166
def pl_impl_charOK : Nat → Option PS := plk []
theorem F_impl_charOK {args : List SV} {Li : List Row} {mv : List Nat} {cl : Bool} {Post : SV → List Row → Prop} (h : wpE Try.prog (lk tyList) pl_impl_charOK (bodyOf Try.f166) ⟨argT args, Lof Li, []⟩ (retE (lk tyList) Try.f166.results.toList Li.length mv cl Post)) (hN : args.length ≤ Try.f166.ntmps := by simp [Try.ntmps166]) :
    CallM Try.prog id_impl_charOK args Li mv cl Post := CallM.ofE T pl_impl_charOK Try.func166 (by kernel_rfl) rfl (by kernel_rfl) (by kernel_rfl) hN h
abbrev id_impl_vecSame : FuncId := 167
def pl_impl_vecSame : Nat → Option PS := plk []
theorem F_impl_vecSame {args : List SV} {Li : List Row} {mv : List Nat} {cl : Bool} {Post : SV → List Row → Prop} (h : wpE Try.prog (lk tyList) pl_impl_vecSame (bodyOf Try.f167) ⟨argT args, Lof Li, []⟩ (retE (lk tyList) Try.f167.results.toList Li.length mv cl Post)) (hN : args.length ≤ Try.f167.ntmps := by simp [Try.ntmps167]) :
    CallM Try.prog id_impl_vecSame args Li mv cl Post := CallM.ofE T pl_impl_vecSame Try.func167 (by kernel_rfl) rfl (by kernel_rfl) (by kernel_rfl) hN h
abbrev id_impl_book_fits : FuncId := 168
def pl_impl_book_fits : Nat → Option PS := plk [(1, .v 0 (.v 1 (.v 2 (.v 3 (.v 4 (.v 5 (.v 6 (.v 7 (.v 8 (.v 9 (.v 10 (.v 11 (.done))))))))))))),
  (8, .v 0 (.v 1 (.v 2 (.v 3 (.v 4 (.v 5 (.v 6 (.v 7 (.v 8 (.v 9 (.v 10 (.v 11 (.v 12 (.v 14 (.x 13 [14] (.x 15 [] (.x 16 [] (.v 17 (.v 18 (.done)))))))))))))))))))),
  (11, .v 0 (.v 1 (.v 2 (.v 3 (.v 4 (.v 5 (.v 6 (.v 7 (.v 8 (.v 9 (.v 10 (.v 11 (.v 12 (.v 13 (.v 14 (.v 15 (.v 16 (.x 17 [15, 14, 13, 12, 11, 10, 9] (.v 18 (.v 19 (.v 20 (.v 21 (.done)))))))))))))))))))))))]
theorem F_impl_book_fits {args : List SV} {Li : List Row} {mv : List Nat} {cl : Bool} {Post : SV → List Row → Prop} (h : wpE Try.prog (lk tyList) pl_impl_book_fits (bodyOf Try.f168) ⟨argT args, Lof Li, []⟩ (retE (lk tyList) Try.f168.results.toList Li.length mv cl Post)) (hN : args.length ≤ Try.f168.ntmps := by simp [Try.ntmps168]) :
    CallM Try.prog id_impl_book_fits args Li mv cl Post := CallM.ofE T pl_impl_book_fits Try.func168 (by kernel_rfl) rfl (by kernel_rfl) (by kernel_rfl) hN h
abbrev id_spec_l01Src_size : FuncId := 169
def pl_spec_l01Src_size : Nat → Option PS := plk []
theorem F_spec_l01Src_size {args : List SV} {Li : List Row} {mv : List Nat} {cl : Bool} {Post : SV → List Row → Prop} (h : wpE Try.prog (lk tyList) pl_spec_l01Src_size (bodyOf Try.f169) ⟨argT args, Lof Li, []⟩ (retE (lk tyList) Try.f169.results.toList Li.length mv cl Post)) (hN : args.length ≤ Try.f169.ntmps := by simp [Try.ntmps169]) :
    CallM Try.prog id_spec_l01Src_size args Li mv cl Post := CallM.ofE T pl_spec_l01Src_size Try.func169 (by kernel_rfl) rfl (by kernel_rfl) (by kernel_rfl) hN h
abbrev id_spec_l01Src_chance : FuncId := 170
def pl_spec_l01Src_chance : Nat → Option PS := plk []
theorem F_spec_l01Src_chance {args : List SV} {Li : List Row} {mv : List Nat} {cl : Bool} {Post : SV → List Row → Prop} (h : wpE Try.prog (lk tyList) pl_spec_l01Src_chance (bodyOf Try.f170) ⟨argT args, Lof Li, []⟩ (retE (lk tyList) Try.f170.results.toList Li.length mv cl Post)) (hN : args.length ≤ Try.f170.ntmps := by simp [Try.ntmps170]) :
    CallM Try.prog id_spec_l01Src_chance args Li mv cl Post := CallM.ofE T pl_spec_l01Src_chance Try.func170 (by kernel_rfl) rfl (by kernel_rfl) (by kernel_rfl) hN h
abbrev id_spec_l01Src_byte : FuncId := 171
def pl_spec_l01Src_byte : Nat → Option PS := plk [(2, .v 0 (.v 1 (.v 2 (.v 3 (.v 4 (.v 5 (.v 6 (.v 7 (.v 8 (.v 9 (.done))))))))))),
  (3, .v 0 (.v 1 (.v 2 (.v 3 (.v 4 (.v 5 (.v 6 (.v 7 (.v 8 (.v 9 (.v 10 (.v 11 (.v 12 (.v 13 (.v 14 (.v 15 (.v 16 (.v 17 (.v 18 (.v 19 (.v 20 (.v 21 (.v 22 (.x 23 [] (.done))))))))))))))))))))))))),
  (4, .v 0 (.v 1 (.v 2 (.v 3 (.v 4 (.v 5 (.v 6 (.v 7 (.v 8 (.v 9 (.v 10 (.v 11 (.v 12 (.done)))))))))))))),
  (5, .v 0 (.v 1 (.v 2 (.v 3 (.v 4 (.v 5 (.v 6 (.v 7 (.v 8 (.v 9 (.v 10 (.v 11 (.done)))))))))))))]
theorem F_spec_l01Src_byte {args : List SV} {Li : List Row} {mv : List Nat} {cl : Bool} {Post : SV → List Row → Prop} (h : wpE Try.prog (lk tyList) pl_spec_l01Src_byte (bodyOf Try.f171) ⟨argT args, Lof Li, []⟩ (retE (lk tyList) Try.f171.results.toList Li.length mv cl Post)) (hN : args.length ≤ Try.f171.ntmps := by simp [Try.ntmps171]) :
    CallM Try.prog id_spec_l01Src_byte args Li mv cl Post := CallM.ofE T pl_spec_l01Src_byte Try.func171 (by kernel_rfl) rfl (by kernel_rfl) (by kernel_rfl) hN h
abbrev id_spec_l01Src_oddStamp : FuncId := 172
def pl_spec_l01Src_oddStamp : Nat → Option PS := plk [(3, .v 1 (.v 5 (.or (.x 0 [5, 1] (.x 2 [5] (.v 3 (.v 4 (.x 6 [4, 3] (.v 7 (.x 8 [] (.done)))))))) (.x 2 [5] (.or (.x 0 [5] (.v 3 (.v 4 (.x 6 [4, 3] (.v 7 (.x 8 [] (.done))))))) (.x 6 [] (.x 0 [] (.v 3 (.v 4 (.v 7 (.x 8 [] (.done))))))))))))]
theorem F_spec_l01Src_oddStamp {args : List SV} {Li : List Row} {mv : List Nat} {cl : Bool} {Post : SV → List Row → Prop} (h : wpE Try.prog (lk tyList) pl_spec_l01Src_oddStamp (bodyOf Try.f172) ⟨argT args, Lof Li, []⟩ (retE (lk tyList) Try.f172.results.toList Li.length mv cl Post)) (hN : args.length ≤ Try.f172.ntmps := by simp [Try.ntmps172]) :
    CallM Try.prog id_spec_l01Src_oddStamp args Li mv cl Post := CallM.ofE T pl_spec_l01Src_oddStamp Try.func172 (by kernel_rfl) rfl (by kernel_rfl) (by kernel_rfl) hN h
abbrev id_spec_l08Stamp : FuncId := 173
def pl_spec_l08Stamp : Nat → Option PS := plk []
theorem F_spec_l08Stamp {args : List SV} {Li : List Row} {mv : List Nat} {cl : Bool} {Post : SV → List Row → Prop} (h : wpE Try.prog (lk tyList) pl_spec_l08Stamp (bodyOf Try.f173) ⟨argT args, Lof Li, []⟩ (retE (lk tyList) Try.f173.results.toList Li.length mv cl Post)) (hN : args.length ≤ Try.f173.ntmps := by simp [Try.ntmps173]) :
    CallM Try.prog id_spec_l08Stamp args Li mv cl Post := CallM.ofE T pl_spec_l08Stamp Try.func173 (by kernel_rfl) rfl (by kernel_rfl) (by kernel_rfl) hN h
abbrev id_spec_StampOK : FuncId := 174
def pl_spec_StampOK : Nat → Option PS := plk []
theorem F_spec_StampOK {args : List SV} {Li : List Row} {mv : List Nat} {cl : Bool} {Post : SV → List Row → Prop} (h : wpE Try.prog (lk tyList) pl_spec_StampOK (bodyOf Try.f174) ⟨argT args, Lof Li, []⟩ (retE (lk tyList) Try.f174.results.toList Li.length mv cl Post)) (hN : args.length ≤ Try.f174.ntmps := by simp [Try.ntmps174]) :
    CallM Try.prog id_spec_StampOK args Li mv cl Post := CallM.ofE T pl_spec_StampOK Try.func174 (by kernel_rfl) rfl (by kernel_rfl) (by kernel_rfl) hN h
abbrev id_spec_l02None : FuncId := 175
def pl_spec_l02None : Nat → Option PS := plk []
theorem F_spec_l02None {args : List SV} {Li : List Row} {mv : List Nat} {cl : Bool} {Post : SV → List Row → Prop} (h : wpE Try.prog (lk tyList) pl_spec_l02None (bodyOf Try.f175) ⟨argT args, Lof Li, []⟩ (retE (lk tyList) Try.f175.results.toList Li.length mv cl Post)) (hN : args.length ≤ Try.f175.ntmps := by simp [Try.ntmps175]) :
    CallM Try.prog id_spec_l02None args Li mv cl Post := CallM.ofE T pl_spec_l02None Try.func175 (by kernel_rfl) rfl (by kernel_rfl) (by kernel_rfl) hN h
abbrev id_spec_StampLess : FuncId := 176
def pl_spec_StampLess : Nat → Option PS := plk []
theorem F_spec_StampLess {args : List SV} {Li : List Row} {mv : List Nat} {cl : Bool} {Post : SV → List Row → Prop} (h : wpE Try.prog (lk tyList) pl_spec_StampLess (bodyOf Try.f176) ⟨argT args, Lof Li, []⟩ (retE (lk tyList) Try.f176.results.toList Li.length mv cl Post)) (hN : args.length ≤ Try.f176.ntmps := by simp [Try.ntmps176]) :
    CallM Try.prog id_spec_StampLess args Li mv cl Post := CallM.ofE T pl_spec_StampLess Try.func176 (by kernel_rfl) rfl (by kernel_rfl) (by kernel_rfl) hN h
abbrev id_spec_l04Char : FuncId := 177
def pl_spec_l04Char : Nat → Option PS := plk []
theorem F_spec_l04Char {args : List SV} {Li : List Row} {mv : List Nat} {cl : Bool} {Post : SV → List Row → Prop} (h : wpE Try.prog (lk tyList) pl_spec_l04Char (bodyOf Try.f177) ⟨argT args, Lof Li, []⟩ (retE (lk tyList) Try.f177.results.toList Li.length mv cl Post)) (hN : args.length ≤ Try.f177.ntmps := by simp [Try.ntmps177]) :
    CallM Try.prog id_spec_l04Char args Li mv cl Post := CallM.ofE T pl_spec_l04Char Try.func177 (by kernel_rfl) rfl (by kernel_rfl) (by kernel_rfl) hN h
abbrev id_spec_l05Same : FuncId := 178
def pl_spec_l05Same : Nat → Option PS := plk [(6, .v 0 (.v 1 (.v 2 (.v 3 (.v 4 (.v 5 (.v 6 (.v 7 (.v 8 (.done))))))))))]
theorem F_spec_l05Same {args : List SV} {Li : List Row} {mv : List Nat} {cl : Bool} {Post : SV → List Row → Prop} (h : wpE Try.prog (lk tyList) pl_spec_l05Same (bodyOf Try.f178) ⟨argT args, Lof Li, []⟩ (retE (lk tyList) Try.f178.results.toList Li.length mv cl Post)) (hN : args.length ≤ Try.f178.ntmps := by simp [Try.ntmps178]) :
    CallM Try.prog id_spec_l05Same args Li mv cl Post := CallM.ofE T pl_spec_l05Same Try.func178 (by kernel_rfl) rfl (by kernel_rfl) (by kernel_rfl) hN h
abbrev id_spec_l01Get : FuncId := 179
def pl_spec_l01Get : Nat → Option PS := plk []
theorem F_spec_l01Get {args : List SV} {Li : List Row} {mv : List Nat} {cl : Bool} {Post : SV → List Row → Prop} (h : wpE Try.prog (lk tyList) pl_spec_l01Get (bodyOf Try.f179) ⟨argT args, Lof Li, []⟩ (retE (lk tyList) Try.f179.results.toList Li.length mv cl Post)) (hN : args.length ≤ Try.f179.ntmps := by simp [Try.ntmps179]) :
    CallM Try.prog id_spec_l01Get args Li mv cl Post := CallM.ofE T pl_spec_l01Get Try.func179 (by kernel_rfl) rfl (by kernel_rfl) (by kernel_rfl) hN h
abbrev id_spec_l13Op : FuncId := 180
def pl_spec_l13Op : Nat → Option PS := plk [(6, .v 0 (.v 1 (.v 2 (.v 3 (.v 4 (.v 5 (.v 6 (.v 7 (.v 8 (.v 9 (.v 10 (.v 11 (.v 12 (.v 13 (.v 14 (.v 15 (.v 16 (.v 17 (.v 18 (.v 19 (.v 20 (.v 21 (.v 22 (.v 23 (.v 24 (.v 25 (.v 26 (.v 27 (.v 28 (.v 30 (.v 31 (.v 34 (.v 35 (.v 36 (.v 37 (.v 38 (.v 39 (.or (.x 29 [39, 38, 37, 36, 35, 34, 31, 30, 28, 27, 26, 25, 24, 23, 22, 21, 20, 19, 18, 17, 16, 15, 14, 13, 12, 11, 10, 9, 8, 7, 6, 5, 4, 3, 2, 1, 0] (.or (.x 32 [39, 38, 37, 36, 35, 34, 28, 27, 26, 25, 24, 23, 22, 21, 20, 19, 18, 17, 16, 15, 14, 13, 12, 11, 10, 9, 8, 7, 6, 5, 4, 3, 2, 1, 0] (.v 33 (.v 40 (.x 41 [40, 33, 39, 38, 37, 36, 35, 34, 28, 27, 26, 25, 24, 23, 22, 21, 20, 19, 18, 17, 16, 15, 14, 13, 12, 11, 10, 9, 8, 7, 6, 5, 4, 3, 2, 1, 0] (.x 42 [] (.done)))))) (.x 41 [39, 38, 37, 36, 35, 34, 31, 30, 28, 27, 26, 25, 24, 23, 22, 21, 20, 19, 18, 17, 16, 15, 14, 13, 12, 11, 10, 9, 8, 7, 6, 5, 4, 3, 2, 1, 0] (.x 32 [39, 38, 37, 36, 35, 34, 28, 27, 26, 25, 24, 23, 22, 21, 20, 19, 18, 17, 16, 15, 14, 13, 12, 11, 10, 9, 8, 7, 6, 5, 4, 3, 2, 1, 0] (.v 33 (.v 40 (.x 42 [] (.done)))))))) (.x 41 [39, 38, 37, 36, 35, 34, 31, 30, 28, 27, 26, 25, 24, 23, 22, 21, 20, 19, 18, 17, 16, 15, 14, 13, 12, 11, 10, 9, 8, 7, 6, 5, 4, 3, 2, 1, 0] (.x 29 [39, 38, 37, 36, 35, 34, 31, 30, 28, 27, 26, 25, 24, 23, 22, 21, 20, 19, 18, 17, 16, 15, 14, 13, 12, 11, 10, 9, 8, 7, 6, 5, 4, 3, 2, 1, 0] (.x 32 [39, 38, 37, 36, 35, 34, 28, 27, 26, 25, 24, 23, 22, 21, 20, 19, 18, 17, 16, 15, 14, 13, 12, 11, 10, 9, 8, 7, 6, 5, 4, 3, 2, 1, 0] (.v 33 (.v 40 (.x 42 [] (.done))))))))))))))))))))))))))))))))))))))))))))),
  (9, .v 0 (.v 1 (.x 2 [0] (.v 3 (.v 4 (.v 7 (.v 8 (.x 5 [8, 7, 0] (.v 6 (.v 9 (.v 10 (.x 11 [10, 9, 6, 8, 7] (.v 12 (.done))))))))))))))]
theorem F_spec_l13Op {args : List SV} {Li : List Row} {mv : List Nat} {cl : Bool} {Post : SV → List Row → Prop} (h : wpE Try.prog (lk tyList) pl_spec_l13Op (bodyOf Try.f180) ⟨argT args, Lof Li, []⟩ (retE (lk tyList) Try.f180.results.toList Li.length mv cl Post)) (hN : args.length ≤ Try.f180.ntmps := by simp [Try.ntmps180]) :
    CallM Try.prog id_spec_l13Op args Li mv cl Post := CallM.ofE T pl_spec_l13Op Try.func180 (by kernel_rfl) rfl (by kernel_rfl) (by kernel_rfl) hN h
abbrev id_impl_appendInt : FuncId := 181
def pl_impl_appendInt : Nat → Option PS := plk []
theorem F_impl_appendInt {args : List SV} {Li : List Row} {mv : List Nat} {cl : Bool} {Post : SV → List Row → Prop} (h : wpE Try.prog (lk tyList) pl_impl_appendInt (bodyOf Try.f181) ⟨argT args, Lof Li, []⟩ (retE (lk tyList) Try.f181.results.toList Li.length mv cl Post)) (hN : args.length ≤ Try.f181.ntmps := by simp [Try.ntmps181]) :
    CallM Try.prog id_impl_appendInt args Li mv cl Post := CallM.ofE T pl_impl_appendInt Try.func181 (by kernel_rfl) rfl (by kernel_rfl) (by kernel_rfl) hN h
abbrev id_spec_l01Put : FuncId := 182
def pl_spec_l01Put : Nat → Option PS := plk []
theorem F_spec_l01Put {args : List SV} {Li : List Row} {mv : List Nat} {cl : Bool} {Post : SV → List Row → Prop} (h : wpE Try.prog (lk tyList) pl_spec_l01Put (bodyOf Try.f182) ⟨argT args, Lof Li, []⟩ (retE (lk tyList) Try.f182.results.toList Li.length mv cl Post)) (hN : args.length ≤ Try.f182.ntmps := by simp [Try.ntmps182]) :
    CallM Try.prog id_spec_l01Put args Li mv cl Post := CallM.ofE T pl_spec_l01Put Try.func182 (by kernel_rfl) rfl (by kernel_rfl) (by kernel_rfl) hN h
abbrev id_impl_group_next : FuncId := 183
def pl_impl_group_next : Nat → Option PS := plk [(0, .v 0 (.v 1 (.v 2 (.v 3 (.v 4 (.v 5 (.v 6 (.x 7 [5, 4, 3, 2] (.v 8 (.v 9 (.v 10 (.v 11 (.done))))))))))))),
  (1, .v 0 (.v 1 (.v 2 (.v 3 (.v 4 (.v 5 (.v 6 (.v 7 (.v 8 (.x 9 [4, 3, 2, 1, 0] (.x 10 [0] (.v 11 (.v 12 (.x 13 [] (.done)))))))))))))))]
theorem F_impl_group_next {args : List SV} {Li : List Row} {mv : List Nat} {cl : Bool} {Post : SV → List Row → Prop} (h : wpE Try.prog (lk tyList) pl_impl_group_next (bodyOf Try.f183) ⟨argT args, Lof Li, []⟩ (retE (lk tyList) Try.f183.results.toList Li.length mv cl Post)) (hN : args.length ≤ Try.f183.ntmps := by simp [Try.ntmps183]) :
    CallM Try.prog id_impl_group_next args Li mv cl Post := CallM.ofE T pl_impl_group_next Try.func183 (by kernel_rfl) rfl (by kernel_rfl) (by kernel_rfl) hN h
abbrev id_impl_group_steal : FuncId := 184
def pl_impl_group_steal : Nat → Option PS := plk []
theorem F_impl_group_steal {args : List SV} {Li : List Row} {mv : List Nat} {cl : Bool} {Post : SV → List Row → Prop} (h : wpE Try.prog (lk tyList) pl_impl_group_steal (bodyOf Try.f184) ⟨argT args, Lof Li, []⟩ (retE (lk tyList) Try.f184.results.toList Li.length mv cl Post)) (hN : args.length ≤ Try.f184.ntmps := by simp [Try.ntmps184]) :
    CallM Try.prog id_impl_group_steal args Li mv cl Post := CallM.ofE T pl_impl_group_steal Try.func184 (by kernel_rfl) rfl (by kernel_rfl) (by kernel_rfl) hN h
abbrev id_impl_vecJoin : FuncId := 185
def pl_impl_vecJoin : Nat → Option PS := plk [(5, .v 0 (.v 1 (.v 2 (.v 3 (.v 4 (.v 5 (.v 6 (.v 7 (.v 8 (.v 9 (.v 10 (.v 11 (.v 12 (.v 13 (.x 14 [] (.done))))))))))))))))]
theorem F_impl_vecJoin {args : List SV} {Li : List Row} {mv : List Nat} {cl : Bool} {Post : SV → List Row → Prop} (h : wpE Try.prog (lk tyList) pl_impl_vecJoin (bodyOf Try.f185) ⟨argT args, Lof Li, []⟩ (retE (lk tyList) Try.f185.results.toList Li.length mv cl Post)) (hN : args.length ≤ Try.f185.ntmps := by simp [Try.ntmps185]) :
    CallM Try.prog id_impl_vecJoin args Li mv cl Post := CallM.ofE T pl_impl_vecJoin Try.func185 (by kernel_rfl) rfl (by kernel_rfl) (by kernel_rfl) hN h
abbrev id_spec_l03Replicas : FuncId := 186
def pl_spec_l03Replicas : Nat → Option PS := plk [(13, .v 0 (.v 1 (.v 2 (.v 3 (.v 4 (.v 5 (.x 6 [4, 3, 2, 1, 0] (.x 7 [] (.v 8 (.v 9 (.v 10 (.x 11 [10] (.v 12 (.done)))))))))))))),
  (14, .v 0 (.v 1 (.v 2 (.v 3 (.v 4 (.v 5 (.v 6 (.v 7 (.v 8 (.v 9 (.v 10 (.v 11 (.v 12 (.or (.x 13 [11, 10, 9, 8, 7, 6, 5, 4, 3, 2, 1, 0] (.or (.x 14 [] (.v 15 (.v 16 (.v 17 (.x 18 [17, 16, 15] (.x 19 [17] (.v 20 (.done)))))))) (.x 18 [11, 10, 9, 8, 7, 6, 5, 4, 3, 2, 1, 0] (.x 14 [] (.v 15 (.v 16 (.v 17 (.x 19 [17] (.v 20 (.done)))))))))) (.x 18 [12, 11, 10, 9, 8, 7, 6, 5, 4, 3, 2, 1, 0] (.x 13 [11, 10, 9, 8, 7, 6, 5, 4, 3, 2, 1, 0] (.x 14 [] (.v 15 (.v 16 (.v 17 (.x 19 [17] (.v 20 (.done))))))))))))))))))))))),
  (19, .v 0 (.v 1 (.v 2 (.v 3 (.v 4 (.x 5 [3, 2, 1, 0] (.x 6 [] (.v 7 (.v 8 (.v 9 (.x 10 [9] (.v 11 (.done))))))))))))),
  (9, .v 0 (.v 1 (.v 2 (.v 3 (.v 4 (.v 5 (.x 6 [4, 3, 2, 1, 0] (.v 7 (.v 8 (.x 9 [] (.v 10 (.v 11 (.v 12 (.x 13 [12] (.v 14 (.done))))))))))))))))]
theorem F_spec_l03Replicas {args : List SV} {Li : List Row} {mv : List Nat} {cl : Bool} {Post : SV → List Row → Prop} (h : wpE Try.prog (lk tyList) pl_spec_l03Replicas (bodyOf Try.f186) ⟨argT args, Lof Li, []⟩ (retE (lk tyList) Try.f186.results.toList Li.length mv cl Post)) (hN : args.length ≤ Try.f186.ntmps := by simp [Try.ntmps186]) :
    CallM Try.prog id_spec_l03Replicas args Li mv cl Post := CallM.ofE T pl_spec_l03Replicas Try.func186 (by kernel_rfl) rfl (by kernel_rfl) (by kernel_rfl) hN h
abbrev id_spec_l03Bent : FuncId := 187
def pl_spec_l03Bent : Nat → Option PS := plk [(5, .v 0 (.v 1 (.v 2 (.v 4 (.x 3 [4, 1, 0] (.x 5 [1, 0] (.v 6 (.x 7 [1, 0] (.x 8 [] (.v 9 (.x 10 [] (.done)))))))))))),
  (8, .v 0 (.v 1 (.v 2 (.x 3 [1, 0] (.v 4 (.x 5 [1, 0] (.v 6 (.v 7 (.v 8 (.x 9 [] (.done))))))))))),
  (10, .v 0 (.v 1 (.v 2 (.v 3 (.x 4 [2, 1, 0] (.v 5 (.x 6 [] (.done))))))))]
theorem F_spec_l03Bent {args : List SV} {Li : List Row} {mv : List Nat} {cl : Bool} {Post : SV → List Row → Prop} (h : wpE Try.prog (lk tyList) pl_spec_l03Bent (bodyOf Try.f187) ⟨argT args, Lof Li, []⟩ (retE (lk tyList) Try.f187.results.toList Li.length mv cl Post)) (hN : args.length ≤ Try.f187.ntmps := by simp [Try.ntmps187]) :
    CallM Try.prog id_spec_l03Bent args Li mv cl Post := CallM.ofE T pl_spec_l03Bent Try.func187 (by kernel_rfl) rfl (by kernel_rfl) (by kernel_rfl) hN h
abbrev id_spec_l03Find : FuncId := 188
def pl_spec_l03Find : Nat → Option PS := plk [(4, .v 0 (.v 1 (.v 2 (.v 3 (.v 4 (.v 5 (.v 6 (.done))))))))]
theorem F_spec_l03Find {args : List SV} {Li : List Row} {mv : List Nat} {cl : Bool} {Post : SV → List Row → Prop} (h : wpE Try.prog (lk tyList) pl_spec_l03Find (bodyOf Try.f188) ⟨argT args, Lof Li, []⟩ (retE (lk tyList) Try.f188.results.toList Li.length mv cl Post)) (hN : args.length ≤ Try.f188.ntmps := by simp [Try.ntmps188]) :
    CallM Try.prog id_spec_l03Find args Li mv cl Post := CallM.ofE T pl_spec_l03Find Try.func188 (by kernel_rfl) rfl (by kernel_rfl) (by kernel_rfl) hN h
abbrev id_spec_l03Insert : FuncId := 189
def pl_spec_l03Insert : Nat → Option PS := plk [(2, .v 0 (.v 1 (.v 2 (.v 3 (.v 4 (.v 5 (.v 6 (.v 7 (.v 8 (.v 9 (.v 10 (.v 11 (.x 12 [] (.v 13 (.done)))))))))))))))]
theorem F_spec_l03Insert {args : List SV} {Li : List Row} {mv : List Nat} {cl : Bool} {Post : SV → List Row → Prop} (h : wpE Try.prog (lk tyList) pl_spec_l03Insert (bodyOf Try.f189) ⟨argT args, Lof Li, []⟩ (retE (lk tyList) Try.f189.results.toList Li.length mv cl Post)) (hN : args.length ≤ Try.f189.ntmps := by simp [Try.ntmps189]) :
    CallM Try.prog id_spec_l03Insert args Li mv cl Post := CallM.ofE T pl_spec_l03Insert Try.func189 (by kernel_rfl) rfl (by kernel_rfl) (by kernel_rfl) hN h
abbrev id_laws_szIntS : FuncId := 190
def pl_laws_szIntS : Nat → Option PS := plk []
theorem F_laws_szIntS {args : List SV} {Li : List Row} {mv : List Nat} {cl : Bool} {Post : SV → List Row → Prop} (h : wpE Try.prog (lk tyList) pl_laws_szIntS (bodyOf Try.f190) ⟨argT args, Lof Li, []⟩ (retE (lk tyList) Try.f190.results.toList Li.length mv cl Post)) (hN : args.length ≤ Try.f190.ntmps := by simp [Try.ntmps190]) :
    CallM Try.prog id_laws_szIntS args Li mv cl Post := CallM.ofE T pl_laws_szIntS Try.func190 (by kernel_rfl) rfl (by kernel_rfl) (by kernel_rfl) hN h
abbrev id_spec_l01Signed : FuncId := 191
def pl_spec_l01Signed : Nat → Option PS := plk []
theorem F_spec_l01Signed {args : List SV} {Li : List Row} {mv : List Nat} {cl : Bool} {Post : SV → List Row → Prop} (h : wpE Try.prog (lk tyList) pl_spec_l01Signed (bodyOf Try.f191) ⟨argT args, Lof Li, []⟩ (retE (lk tyList) Try.f191.results.toList Li.length mv cl Post)) (hN : args.length ≤ Try.f191.ntmps := by simp [Try.ntmps191]) :
    CallM Try.prog id_spec_l01Signed args Li mv cl Post := CallM.ofE T pl_spec_l01Signed Try.func191 (by kernel_rfl) rfl (by kernel_rfl) (by kernel_rfl) hN h
abbrev id_spec_l08Sign : FuncId := 192
def pl_spec_l08Sign : Nat → Option PS := plk []
theorem F_spec_l08Sign {args : List SV} {Li : List Row} {mv : List Nat} {cl : Bool} {Post : SV → List Row → Prop} (h : wpE Try.prog (lk tyList) pl_spec_l08Sign (bodyOf Try.f192) ⟨argT args, Lof Li, []⟩ (retE (lk tyList) Try.f192.results.toList Li.length mv cl Post)) (hN : args.length ≤ Try.f192.ntmps := by simp [Try.ntmps192]) :
    CallM Try.prog id_spec_l08Sign args Li mv cl Post := CallM.ofE T pl_spec_l08Sign Try.func192 (by kernel_rfl) rfl (by kernel_rfl) (by kernel_rfl) hN h
abbrev id_laws_toIntS : FuncId := 193
def pl_laws_toIntS : Nat → Option PS := plk []
theorem F_laws_toIntS {args : List SV} {Li : List Row} {mv : List Nat} {cl : Bool} {Post : SV → List Row → Prop} (h : wpE Try.prog (lk tyList) pl_laws_toIntS (bodyOf Try.f193) ⟨argT args, Lof Li, []⟩ (retE (lk tyList) Try.f193.results.toList Li.length mv cl Post)) (hN : args.length ≤ Try.f193.ntmps := by simp [Try.ntmps193]) :
    CallM Try.prog id_laws_toIntS args Li mv cl Post := CallM.ofE T pl_laws_toIntS Try.func193 (by kernel_rfl) rfl (by kernel_rfl) (by kernel_rfl) hN h
abbrev id_impl_zig : FuncId := 194
def pl_impl_zig : Nat → Option PS := plk []
theorem F_impl_zig {args : List SV} {Li : List Row} {mv : List Nat} {cl : Bool} {Post : SV → List Row → Prop} (h : wpE Try.prog (lk tyList) pl_impl_zig (bodyOf Try.f194) ⟨argT args, Lof Li, []⟩ (retE (lk tyList) Try.f194.results.toList Li.length mv cl Post)) (hN : args.length ≤ Try.f194.ntmps := by simp [Try.ntmps194]) :
    CallM Try.prog id_impl_zig args Li mv cl Post := CallM.ofE T pl_impl_zig Try.func194 (by kernel_rfl) rfl (by kernel_rfl) (by kernel_rfl) hN h
abbrev id_impl_runLen : FuncId := 195
def pl_impl_runLen : Nat → Option PS := plk [(3, .v 0 (.v 1 (.v 2 (.v 3 (.v 4 (.v 5 (.v 6 (.v 7 (.v 8 (.v 9 (.v 10 (.done)))))))))))),
  (5, .v 0 (.v 1 (.v 2 (.v 3 (.v 4 (.v 5 (.v 6 (.v 7 (.v 8 (.v 9 (.v 10 (.v 11 (.v 12 (.v 13 (.v 14 (.v 15 (.v 16 (.v 17 (.v 18 (.v 19 (.v 20 (.v 21 (.v 22 (.v 23 (.done)))))))))))))))))))))))))]
theorem F_impl_runLen {args : List SV} {Li : List Row} {mv : List Nat} {cl : Bool} {Post : SV → List Row → Prop} (h : wpE Try.prog (lk tyList) pl_impl_runLen (bodyOf Try.f195) ⟨argT args, Lof Li, []⟩ (retE (lk tyList) Try.f195.results.toList Li.length mv cl Post)) (hN : args.length ≤ Try.f195.ntmps := by simp [Try.ntmps195]) :
    CallM Try.prog id_impl_runLen args Li mv cl Post := CallM.ofE T pl_impl_runLen Try.func195 (by kernel_rfl) rfl (by kernel_rfl) (by kernel_rfl) hN h
abbrev id_laws_eqIntS : FuncId := 196
def pl_laws_eqIntS : Nat → Option PS := plk [(6, .v 0 (.v 1 (.v 2 (.v 3 (.v 4 (.v 5 (.v 6 (.v 7 (.v 8 (.done))))))))))]
theorem F_laws_eqIntS {args : List SV} {Li : List Row} {mv : List Nat} {cl : Bool} {Post : SV → List Row → Prop} (h : wpE Try.prog (lk tyList) pl_laws_eqIntS (bodyOf Try.f196) ⟨argT args, Lof Li, []⟩ (retE (lk tyList) Try.f196.results.toList Li.length mv cl Post)) (hN : args.length ≤ Try.f196.ntmps := by simp [Try.ntmps196]) :
    CallM Try.prog id_laws_eqIntS args Li mv cl Post := CallM.ofE T pl_laws_eqIntS Try.func196 (by kernel_rfl) rfl (by kernel_rfl) (by kernel_rfl) hN h
abbrev id_spec_l01Src_word : FuncId := 197
def pl_spec_l01Src_word : Nat → Option PS := plk []
theorem F_spec_l01Src_word {args : List SV} {Li : List Row} {mv : List Nat} {cl : Bool} {Post : SV → List Row → Prop} (h : wpE Try.prog (lk tyList) pl_spec_l01Src_word (bodyOf Try.f197) ⟨argT args, Lof Li, []⟩ (retE (lk tyList) Try.f197.results.toList Li.length mv cl Post)) (hN : args.length ≤ Try.f197.ntmps := by simp [Try.ntmps197]) :
    CallM Try.prog id_spec_l01Src_word args Li mv cl Post := CallM.ofE T pl_spec_l01Src_word Try.func197 (by kernel_rfl) rfl (by kernel_rfl) (by kernel_rfl) hN h
abbrev id_spec_l01Src_stamp : FuncId := 198
def pl_spec_l01Src_stamp : Nat → Option PS := plk []
theorem F_spec_l01Src_stamp {args : List SV} {Li : List Row} {mv : List Nat} {cl : Bool} {Post : SV → List Row → Prop} (h : wpE Try.prog (lk tyList) pl_spec_l01Src_stamp (bodyOf Try.f198) ⟨argT args, Lof Li, []⟩ (retE (lk tyList) Try.f198.results.toList Li.length mv cl Post)) (hN : args.length ≤ Try.f198.ntmps := by simp [Try.ntmps198]) :
    CallM Try.prog id_spec_l01Src_stamp args Li mv cl Post := CallM.ofE T pl_spec_l01Src_stamp Try.func198 (by kernel_rfl) rfl (by kernel_rfl) (by kernel_rfl) hN h
abbrev id_spec_SetAdd : FuncId := 199
def pl_spec_SetAdd : Nat → Option PS := plk [(6, .v 0 (.v 1 (.v 2 (.v 4 (.x 3 [4] (.x 5 [] (.v 6 (.done))))))))]
theorem F_spec_SetAdd {args : List SV} {Li : List Row} {mv : List Nat} {cl : Bool} {Post : SV → List Row → Prop} (h : wpE Try.prog (lk tyList) pl_spec_SetAdd (bodyOf Try.f199) ⟨argT args, Lof Li, []⟩ (retE (lk tyList) Try.f199.results.toList Li.length mv cl Post)) (hN : args.length ≤ Try.f199.ntmps := by simp [Try.ntmps199]) :
    CallM Try.prog id_spec_SetAdd args Li mv cl Post := CallM.ofE T pl_spec_SetAdd Try.func199 (by kernel_rfl) rfl (by kernel_rfl) (by kernel_rfl) hN h
abbrev id_spec_MultiWrite : FuncId := 200
def pl_spec_MultiWrite : Nat → Option PS := plk []
theorem F_spec_MultiWrite {args : List SV} {Li : List Row} {mv : List Nat} {cl : Bool} {Post : SV → List Row → Prop} (h : wpE Try.prog (lk tyList) pl_spec_MultiWrite (bodyOf Try.f200) ⟨argT args, Lof Li, []⟩ (retE (lk tyList) Try.f200.results.toList Li.length mv cl Post)) (hN : args.length ≤ Try.f200.ntmps := by simp [Try.ntmps200]) :
    CallM Try.prog id_spec_MultiWrite args Li mv cl Post := CallM.ofE T pl_spec_MultiWrite Try.func200 (by kernel_rfl) rfl (by kernel_rfl) (by kernel_rfl) hN h
abbrev id_spec_SetRemove : FuncId := 201
def pl_spec_SetRemove : Nat → Option PS := plk [(5, .v 0 (.v 1 (.v 3 (.v 4 (.v 5 (.x 2 [5, 4, 3] (.x 6 [] (.v 7 (.x 8 [] (.v 9 (.done)))))))))))]
theorem F_spec_SetRemove {args : List SV} {Li : List Row} {mv : List Nat} {cl : Bool} {Post : SV → List Row → Prop} (h : wpE Try.prog (lk tyList) pl_spec_SetRemove (bodyOf Try.f201) ⟨argT args, Lof Li, []⟩ (retE (lk tyList) Try.f201.results.toList Li.length mv cl Post)) (hN : args.length ≤ Try.f201.ntmps := by simp [Try.ntmps201]) :
    CallM Try.prog id_spec_SetRemove args Li mv cl Post := CallM.ofE T pl_spec_SetRemove Try.func201 (by kernel_rfl) rfl (by kernel_rfl) (by kernel_rfl) hN h
abbrev id_spec_l03Write : FuncId := 202
def pl_spec_l03Write : Nat → Option PS := plk [(7, .v 0 (.v 1 (.v 2 (.v 3 (.v 4 (.v 5 (.v 6 (.v 7 (.v 8 (.v 9 (.x 10 [9, 8, 7, 6, 5, 4, 3, 2, 1] (.x 11 [] (.v 12 (.done))))))))))))))]
theorem F_spec_l03Write {args : List SV} {Li : List Row} {mv : List Nat} {cl : Bool} {Post : SV → List Row → Prop} (h : wpE Try.prog (lk tyList) pl_spec_l03Write (bodyOf Try.f202) ⟨argT args, Lof Li, []⟩ (retE (lk tyList) Try.f202.results.toList Li.length mv cl Post)) (hN : args.length ≤ Try.f202.ntmps := by simp [Try.ntmps202]) :
    CallM Try.prog id_spec_l03Write args Li mv cl Post := CallM.ofE T pl_spec_l03Write Try.func202 (by kernel_rfl) rfl (by kernel_rfl) (by kernel_rfl) hN h
abbrev id_spec_l03Without : FuncId := 203
def pl_spec_l03Without : Nat → Option PS := plk []
theorem F_spec_l03Without {args : List SV} {Li : List Row} {mv : List Nat} {cl : Bool} {Post : SV → List Row → Prop} (h : wpE Try.prog (lk tyList) pl_spec_l03Without (bodyOf Try.f203) ⟨argT args, Lof Li, []⟩ (retE (lk tyList) Try.f203.results.toList Li.length mv cl Post)) (hN : args.length ≤ Try.f203.ntmps := by simp [Try.ntmps203]) :
    CallM Try.prog id_spec_l03Without args Li mv cl Post := CallM.ofE T pl_spec_l03Without Try.func203 (by kernel_rfl) rfl (by kernel_rfl) (by kernel_rfl) hN h
end Go.Proofs.Ytpdjehnlejjfmaa.D
