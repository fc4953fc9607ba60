/- Annotations of the functions, and facts of types, by gen.py. No condition. -/
import Derived.Test.YtfagpbelmaipkaaEvStep
import Derived.Test.YtfagpbelmaipkaaEvCore
import Derived.Test.YtfagpbelmaipkaaProg
namespace Go.Proofs.Ytfagpbelmaipkaa.Ev
open Go
def annL : List (Nat × Ann) := [
  (3, { vs := [2, 4, 5, 6, 7, 8, 9, 10, 11, 12, 13, 14, 15] }),
  (4, { vs := [4, 5, 8, 9, 10, 11, 13, 14, 15, 16], keep := [(0, [(5, .v), (9, .v), (13, .v), (14, .v)]), (2, [(5, .v), (9, .v), (13, .v), (14, .v), (15, .v), (16, .v)])] }),
  (5, { vs := [2, 4] }),
  (6, { vs := [2, 4, 5, 6, 7], keep := [(0, [(1, .v), (2, .v), (6, .o 1 true), (7, .v)])] }),
  (7, { vs := [1, 2, 3] }),
  (8, { vs := [2, 4, 5, 6, 7, 8, 13, 14, 15], keep := [(0, [(1, .v), (6, .o 1 true), (13, .v), (14, .v), (15, .v)])] }),
  (9, { vs := [4, 5], keep := [(0, [(0, .v), (1, .v), (5, .v)])] }),
  (10, { vs := [2, 3, 4] }),
  (11, { vs := [2, 4], modes := [.l] }),
  (12, { vs := [4, 5], keep := [(0, [(0, .v), (1, .v), (5, .v)])], modes := [.l] }),
  (13, { vs := [4, 5], keep := [(0, [(0, .v), (1, .v), (5, .v)])] }),
  (14, { vs := [4, 5, 6, 7, 8, 9, 10, 11, 12], keep := [(0, [(1, .v), (4, .v), (7, .v), (9, .o 1 true), (10, .v)]), (3000000, [(7, .o 0 false)])] }),
  (15, { vs := [4] }),
  (16, { vs := [4] }),
  (17, { vs := [6] }),
  (18, { vs := [2, 3, 4, 5, 6, 7] }),
  (19, { vs := [2, 3, 4, 5, 6, 7] }),
  (20, { vs := [4, 5], keep := [(0, [(0, .v), (1, .v), (5, .v)])] }),
  (21, { vs := [4, 5], keep := [(0, [(0, .v), (1, .v), (5, .v)])] }),
  (22, { vs := [4, 5], keep := [(0, [(0, .v), (1, .v), (5, .v)])] }),
  (23, { vs := [4, 5], keep := [(0, [(0, .v), (1, .v), (5, .v)])] }),
  (24, { vs := [1, 2, 3, 4, 5, 6, 7, 8, 9], keep := [(0, [(1, .v), (3, .v), (4, .v)]), (2, [(1, .v), (3, .v), (6, .v)]), (4, [(1, .v), (3, .v), (8, .v)])] }),
  (25, { vs := [2, 3, 4], keep := [(0, [(0, .v), (3, .v), (4, .v)])] }),
  (26, { vs := [2, 3, 4], keep := [(0, [(0, .v), (3, .v), (4, .v)])] }),
  (27, { vs := [2, 3, 4], keep := [(0, [(0, .v), (3, .v), (4, .v)])] }),
  (28, { vs := [1, 2, 3, 4, 29, 30, 31], keep := [(0, [(1, .v), (29, .v), (30, .v), (31, .v)])] }),
  (29, { vs := [4, 5], keep := [(0, [(0, .v), (1, .v), (5, .v)])] }),
  (30, { vs := [4, 5], keep := [(0, [(0, .v), (1, .v), (5, .v)])] }),
  (31, { vs := [4, 5], keep := [(0, [(0, .v), (1, .v), (5, .v)])] }),
  (32, { vs := [4, 5], keep := [(0, [(0, .v), (1, .v), (5, .v)])], modes := [.l] }),
  (33, { vs := [4, 5], keep := [(0, [(0, .v), (1, .v), (5, .v)])], modes := [.l] }),
  (34, { vs := [4, 5], keep := [(0, [(0, .v), (1, .v), (5, .v)])], modes := [.l] }),
  (35, { vs := [2, 3] }),
  (36, { vs := [2, 3, 4, 5, 6, 7, 8, 9, 11] }),
  (37, { vs := [1, 2], keep := [(1000001, [])] }),
  (38, { vs := [2] }),
  (39, { vs := [4, 5, 6, 7, 30], keep := [(0, [(0, .v), (1, .v), (5, .o 5 false), (6, .v)])], modes := [.l] }),
  (40, { vs := [4, 5, 6], keep := [(0, [(0, .v), (5, .o 1 true), (6, .v)])], modes := [.l] }),
  (41, { vs := [1, 2] }),
  (42, { vs := [1, 2] }),
  (43, { vs := [3, 4, 5, 7] }),
  (44, { vs := [1, 2, 3, 4, 5], keep := [(0, [(1, .v), (3, .v)]), (2, [(1, .v), (4, .v)]), (4, [(1, .v), (5, .v)])] }),
  (45, { vs := [2, 4] }),
  (46, { vs := [2, 4] }),
  (47, { vs := [2, 4] }),
  (48, { vs := [6] }),
  (49, { vs := [1, 2] }),
  (50, { vs := [4, 5], keep := [(0, [(0, .v), (1, .v), (5, .v)])] }),
  (51, { vs := [1, 2, 3] }),
  (52, { vs := [1, 2, 3] }),
  (53, { vs := [1, 2, 3] }),
  (54, { vs := [2] }),
  (55, { vs := [6] }),
  (56, { vs := [3, 5, 6] }),
  (57, { vs := [3, 4] }),
  (58, { vs := [2, 3] }),
  (59, { vs := [1, 2] }),
  (60, { vs := [2, 4] }),
  (61, { vs := [3, 4] }),
  (62, { vs := [2, 3] }),
  (63, { vs := [3, 6] }),
  (64, { vs := [2, 3, 4] }),
  (65, { vs := [2, 3, 4] }),
  (66, { vs := [2, 3, 4] }),
  (67, { vs := [1, 2, 3, 4], keep := [(0, [(1, .v), (2, .v), (3, .v), (4, .v)])] }),
  (68, { vs := [3, 6, 7, 8, 9, 10, 11, 12], keep := [(0, [(1, .v), (2, .v), (3, .v), (6, .v), (7, .v), (8, .v), (9, .v)])] }),
  (69, { vs := [4, 5, 6, 7], modes := [.l] }),
  (70, { vs := [4] }),
  (71, { vs := [2], modes := [.l] }),
  (72, { vs := [4], modes := [.l] }),
  (73, { vs := [3, 4] }),
  (74, { vs := [2] }),
  (75, { vs := [2] }),
  (76, { vs := [3, 4] }),
  (77, { vs := [2, 3] }),
  (78, { vs := [2, 4] }),
  (79, { vs := [2] }),
  (80, { vs := [2] }),
  (81, { vs := [2, 3, 4] }),
  (82, { vs := [3, 7, 8, 9], keep := [(0, [(0, .v), (7, .v), (8, .v), (9, .v)])] }),
  (83, { vs := [6, 7, 8, 9, 10, 14, 15, 16], keep := [(0, [(0, .v), (1, .v), (2, .v), (6, .v), (14, .v), (15, .v), (16, .v)])] }),
  (84, { vs := [4] }),
  (85, { vs := [1, 2, 3] }),
  (86, { vs := [2, 3, 4], keep := [(0, [(0, .v), (3, .v), (4, .v)])] }),
  (87, { vs := [4] }),
  (88, { vs := [2, 3] }),
  (89, { vs := [3, 4] }),
  (90, { vs := [2, 4] }),
  (91, { vs := [4, 5], keep := [(0, [(0, .v), (1, .v), (5, .v)])] }),
  (92, { vs := [2] }),
  (93, { vs := [4] }),
  (94, { vs := [2, 3] }),
  (95, { vs := [2, 3, 4] }),
  (96, { vs := [2], modes := [.l] }),
  (97, { vs := [4], modes := [.l] }),
  (98, { vs := [4] }),
  (99, { vs := [3] }),
  (100, { vs := [4] }),
  (101, { vs := [2, 3] }),
  (102, { vs := [4, 5, 7, 8], keep := [(0, [(0, .v), (1, .v), (7, .v), (8, .v)])] }),
  (103, { vs := [4] }),
  (104, { vs := [3] }),
  (105, { vs := [4, 5, 7, 8], keep := [(0, [(0, .v), (1, .v), (7, .v), (8, .v)])] }),
  (106, { vs := [4, 5, 7, 8], keep := [(0, [(0, .v), (1, .v), (7, .v), (8, .v)])] }),
  (107, { vs := [4, 5, 7, 8], keep := [(0, [(0, .v), (1, .v), (7, .v), (8, .v)])] }),
  (108, { vs := [4, 5, 7, 8], keep := [(0, [(0, .v), (1, .v), (7, .v), (8, .v)])] })]
def annOf : List (Nat × Ann) → Nat → Ann
  | [], _ => {}
  | (k, a) :: l, f => if k = f then a else annOf l f
def ann0 (f : FuncId) : Ann := annOf annL f
noncomputable def ann1 (f : FuncId) : Ann := if f = 83 then { ann0 83 with deep := some (deepG Go.Proofs.Try.prog ann0 (fun _ => none) 83) } else ann0 f
noncomputable def ann (f : FuncId) : Ann := if f = 43 then { ann1 43 with deep := some (deepG Go.Proofs.Try.prog ann1 (fun _ => none) 43) } else ann1 f
@[go_sem] theorem ty3 : tyOf Go.Proofs.Try.prog 3 = .int .i64 := by kernel_rfl
@[go_sem] theorem sz3 : szOf Go.Proofs.Try.prog 3 = 1 := by kernel_rfl
@[go_sem] theorem by3 : byOf Go.Proofs.Try.prog 3 = 8 := by kernel_rfl
@[go_sem] theorem kn3 : known Go.Proofs.Try.prog 3 = true := by kernel_rfl
@[go_sem] theorem zk3 : zeroOk Go.Proofs.Try.prog 3 = true := by kernel_rfl
@[go_sem] theorem ze3 : zeOf Go.Proofs.Try.prog 3 = .int .i64 0 := by kernel_rfl
@[go_sem] theorem ty4 : tyOf Go.Proofs.Try.prog 4 = .bool := by kernel_rfl
@[go_sem] theorem sz4 : szOf Go.Proofs.Try.prog 4 = 1 := by kernel_rfl
@[go_sem] theorem by4 : byOf Go.Proofs.Try.prog 4 = 1 := by kernel_rfl
@[go_sem] theorem kn4 : known Go.Proofs.Try.prog 4 = true := by kernel_rfl
@[go_sem] theorem zk4 : zeroOk Go.Proofs.Try.prog 4 = true := by kernel_rfl
@[go_sem] theorem ze4 : zeOf Go.Proofs.Try.prog 4 = .bool false := by kernel_rfl
@[go_sem] theorem ty5 : tyOf Go.Proofs.Try.prog 5 = .int .u8 := by kernel_rfl
@[go_sem] theorem sz5 : szOf Go.Proofs.Try.prog 5 = 1 := by kernel_rfl
@[go_sem] theorem by5 : byOf Go.Proofs.Try.prog 5 = 1 := by kernel_rfl
@[go_sem] theorem kn5 : known Go.Proofs.Try.prog 5 = true := by kernel_rfl
@[go_sem] theorem zk5 : zeroOk Go.Proofs.Try.prog 5 = true := by kernel_rfl
@[go_sem] theorem ze5 : zeOf Go.Proofs.Try.prog 5 = .int .u8 0 := by kernel_rfl
@[go_sem] theorem ty9 : tyOf Go.Proofs.Try.prog 9 = .str := by kernel_rfl
@[go_sem] theorem sz9 : szOf Go.Proofs.Try.prog 9 = 1 := by kernel_rfl
@[go_sem] theorem by9 : byOf Go.Proofs.Try.prog 9 = 16 := by kernel_rfl
@[go_sem] theorem kn9 : known Go.Proofs.Try.prog 9 = true := by kernel_rfl
@[go_sem] theorem zk9 : zeroOk Go.Proofs.Try.prog 9 = true := by kernel_rfl
@[go_sem] theorem ze9 : zeOf Go.Proofs.Try.prog 9 = .str [] := by kernel_rfl
@[go_sem] theorem ty22 : tyOf Go.Proofs.Try.prog 22 = .slice 91 := by kernel_rfl
@[go_sem] theorem sz22 : szOf Go.Proofs.Try.prog 22 = 1 := by kernel_rfl
@[go_sem] theorem by22 : byOf Go.Proofs.Try.prog 22 = 24 := by kernel_rfl
@[go_sem] theorem kn22 : known Go.Proofs.Try.prog 22 = true := by kernel_rfl
@[go_sem] theorem zk22 : zeroOk Go.Proofs.Try.prog 22 = true := by kernel_rfl
@[go_sem] theorem ze22 : zeOf Go.Proofs.Try.prog 22 = .nils := by kernel_rfl
@[go_sem] theorem ty23 : tyOf Go.Proofs.Try.prog 23 = .slice 94 := by kernel_rfl
@[go_sem] theorem sz23 : szOf Go.Proofs.Try.prog 23 = 1 := by kernel_rfl
@[go_sem] theorem by23 : byOf Go.Proofs.Try.prog 23 = 24 := by kernel_rfl
@[go_sem] theorem kn23 : known Go.Proofs.Try.prog 23 = true := by kernel_rfl
@[go_sem] theorem zk23 : zeroOk Go.Proofs.Try.prog 23 = true := by kernel_rfl
@[go_sem] theorem ze23 : zeOf Go.Proofs.Try.prog 23 = .nils := by kernel_rfl
@[go_sem] theorem ty24 : tyOf Go.Proofs.Try.prog 24 = .slice 97 := by kernel_rfl
@[go_sem] theorem sz24 : szOf Go.Proofs.Try.prog 24 = 1 := by kernel_rfl
@[go_sem] theorem by24 : byOf Go.Proofs.Try.prog 24 = 24 := by kernel_rfl
@[go_sem] theorem kn24 : known Go.Proofs.Try.prog 24 = true := by kernel_rfl
@[go_sem] theorem zk24 : zeroOk Go.Proofs.Try.prog 24 = true := by kernel_rfl
@[go_sem] theorem ze24 : zeOf Go.Proofs.Try.prog 24 = .nils := by kernel_rfl
@[go_sem] theorem ty26 : tyOf Go.Proofs.Try.prog 26 = .strct [(0, 22), (1, 3), (2, 23), (3, 24)] := by kernel_rfl
@[go_sem] theorem sz26 : szOf Go.Proofs.Try.prog 26 = 4 := by kernel_rfl
@[go_sem] theorem by26 : byOf Go.Proofs.Try.prog 26 = 80 := by kernel_rfl
@[go_sem] theorem kn26 : known Go.Proofs.Try.prog 26 = true := by kernel_rfl
@[go_sem] theorem zk26 : zeroOk Go.Proofs.Try.prog 26 = true := by kernel_rfl
@[go_sem] theorem ze26 : zeOf Go.Proofs.Try.prog 26 = .agg [.nils, .int .i64 0, .nils, .nils] := by kernel_rfl
@[go_sem] theorem fl26_0 : fldOf Go.Proofs.Try.prog 26 0 = some (0, 1, false) := by kernel_rfl
@[go_sem] theorem fl26_1 : fldOf Go.Proofs.Try.prog 26 1 = some (1, 1, false) := by kernel_rfl
@[go_sem] theorem fl26_2 : fldOf Go.Proofs.Try.prog 26 2 = some (2, 1, false) := by kernel_rfl
@[go_sem] theorem fl26_3 : fldOf Go.Proofs.Try.prog 26 3 = some (3, 1, false) := by kernel_rfl
@[go_sem] theorem ft26 : flatTy Go.Proofs.Try.prog 26 = false := by kernel_rfl
@[go_sem] theorem ty28 : tyOf Go.Proofs.Try.prog 28 = .slice 3 := by kernel_rfl
@[go_sem] theorem sz28 : szOf Go.Proofs.Try.prog 28 = 1 := by kernel_rfl
@[go_sem] theorem by28 : byOf Go.Proofs.Try.prog 28 = 24 := by kernel_rfl
@[go_sem] theorem kn28 : known Go.Proofs.Try.prog 28 = true := by kernel_rfl
@[go_sem] theorem zk28 : zeroOk Go.Proofs.Try.prog 28 = true := by kernel_rfl
@[go_sem] theorem ze28 : zeOf Go.Proofs.Try.prog 28 = .nils := by kernel_rfl
@[go_sem] theorem ty31 : tyOf Go.Proofs.Try.prog 31 = .slice 69 := by kernel_rfl
@[go_sem] theorem sz31 : szOf Go.Proofs.Try.prog 31 = 1 := by kernel_rfl
@[go_sem] theorem by31 : byOf Go.Proofs.Try.prog 31 = 24 := by kernel_rfl
@[go_sem] theorem kn31 : known Go.Proofs.Try.prog 31 = true := by kernel_rfl
@[go_sem] theorem zk31 : zeroOk Go.Proofs.Try.prog 31 = true := by kernel_rfl
@[go_sem] theorem ze31 : zeOf Go.Proofs.Try.prog 31 = .nils := by kernel_rfl
@[go_sem] theorem ty32 : tyOf Go.Proofs.Try.prog 32 = .slice 102 := by kernel_rfl
@[go_sem] theorem sz32 : szOf Go.Proofs.Try.prog 32 = 1 := by kernel_rfl
@[go_sem] theorem by32 : byOf Go.Proofs.Try.prog 32 = 24 := by kernel_rfl
@[go_sem] theorem kn32 : known Go.Proofs.Try.prog 32 = true := by kernel_rfl
@[go_sem] theorem zk32 : zeroOk Go.Proofs.Try.prog 32 = true := by kernel_rfl
@[go_sem] theorem ze32 : zeOf Go.Proofs.Try.prog 32 = .nils := by kernel_rfl
@[go_sem] theorem ty33 : tyOf Go.Proofs.Try.prog 33 = .slice 104 := by kernel_rfl
@[go_sem] theorem sz33 : szOf Go.Proofs.Try.prog 33 = 1 := by kernel_rfl
@[go_sem] theorem by33 : byOf Go.Proofs.Try.prog 33 = 24 := by kernel_rfl
@[go_sem] theorem kn33 : known Go.Proofs.Try.prog 33 = true := by kernel_rfl
@[go_sem] theorem zk33 : zeroOk Go.Proofs.Try.prog 33 = true := by kernel_rfl
@[go_sem] theorem ze33 : zeOf Go.Proofs.Try.prog 33 = .nils := by kernel_rfl
@[go_sem] theorem ty35 : tyOf Go.Proofs.Try.prog 35 = .strct [(0, 31), (1, 3), (2, 32), (3, 33)] := by kernel_rfl
@[go_sem] theorem sz35 : szOf Go.Proofs.Try.prog 35 = 4 := by kernel_rfl
@[go_sem] theorem by35 : byOf Go.Proofs.Try.prog 35 = 80 := by kernel_rfl
@[go_sem] theorem kn35 : known Go.Proofs.Try.prog 35 = true := by kernel_rfl
@[go_sem] theorem zk35 : zeroOk Go.Proofs.Try.prog 35 = true := by kernel_rfl
@[go_sem] theorem ze35 : zeOf Go.Proofs.Try.prog 35 = .agg [.nils, .int .i64 0, .nils, .nils] := by kernel_rfl
@[go_sem] theorem fl35_0 : fldOf Go.Proofs.Try.prog 35 0 = some (0, 1, false) := by kernel_rfl
@[go_sem] theorem fl35_1 : fldOf Go.Proofs.Try.prog 35 1 = some (1, 1, false) := by kernel_rfl
@[go_sem] theorem fl35_2 : fldOf Go.Proofs.Try.prog 35 2 = some (2, 1, false) := by kernel_rfl
@[go_sem] theorem fl35_3 : fldOf Go.Proofs.Try.prog 35 3 = some (3, 1, false) := by kernel_rfl
@[go_sem] theorem ft35 : flatTy Go.Proofs.Try.prog 35 = false := by kernel_rfl
@[go_sem] theorem ty42 : tyOf Go.Proofs.Try.prog 42 = .slice 5 := by kernel_rfl
@[go_sem] theorem sz42 : szOf Go.Proofs.Try.prog 42 = 1 := by kernel_rfl
@[go_sem] theorem by42 : byOf Go.Proofs.Try.prog 42 = 24 := by kernel_rfl
@[go_sem] theorem kn42 : known Go.Proofs.Try.prog 42 = true := by kernel_rfl
@[go_sem] theorem zk42 : zeroOk Go.Proofs.Try.prog 42 = true := by kernel_rfl
@[go_sem] theorem ze42 : zeOf Go.Proofs.Try.prog 42 = .nils := by kernel_rfl
@[go_sem] theorem ty43 : tyOf Go.Proofs.Try.prog 43 = .slice 9 := by kernel_rfl
@[go_sem] theorem sz43 : szOf Go.Proofs.Try.prog 43 = 1 := by kernel_rfl
@[go_sem] theorem by43 : byOf Go.Proofs.Try.prog 43 = 24 := by kernel_rfl
@[go_sem] theorem kn43 : known Go.Proofs.Try.prog 43 = true := by kernel_rfl
@[go_sem] theorem zk43 : zeroOk Go.Proofs.Try.prog 43 = true := by kernel_rfl
@[go_sem] theorem ze43 : zeOf Go.Proofs.Try.prog 43 = .nils := by kernel_rfl
@[go_sem] theorem ty44 : tyOf Go.Proofs.Try.prog 44 = .slice 60 := by kernel_rfl
@[go_sem] theorem sz44 : szOf Go.Proofs.Try.prog 44 = 1 := by kernel_rfl
@[go_sem] theorem by44 : byOf Go.Proofs.Try.prog 44 = 24 := by kernel_rfl
@[go_sem] theorem kn44 : known Go.Proofs.Try.prog 44 = true := by kernel_rfl
@[go_sem] theorem zk44 : zeroOk Go.Proofs.Try.prog 44 = true := by kernel_rfl
@[go_sem] theorem ze44 : zeOf Go.Proofs.Try.prog 44 = .nils := by kernel_rfl
@[go_sem] theorem ty46 : tyOf Go.Proofs.Try.prog 46 = .strct [(0, 43), (1, 44), (2, 43)] := by kernel_rfl
@[go_sem] theorem sz46 : szOf Go.Proofs.Try.prog 46 = 3 := by kernel_rfl
@[go_sem] theorem by46 : byOf Go.Proofs.Try.prog 46 = 72 := by kernel_rfl
@[go_sem] theorem kn46 : known Go.Proofs.Try.prog 46 = true := by kernel_rfl
@[go_sem] theorem zk46 : zeroOk Go.Proofs.Try.prog 46 = true := by kernel_rfl
@[go_sem] theorem ze46 : zeOf Go.Proofs.Try.prog 46 = .agg [.nils, .nils, .nils] := by kernel_rfl
@[go_sem] theorem fl46_0 : fldOf Go.Proofs.Try.prog 46 0 = some (0, 1, false) := by kernel_rfl
@[go_sem] theorem fl46_1 : fldOf Go.Proofs.Try.prog 46 1 = some (1, 1, false) := by kernel_rfl
@[go_sem] theorem fl46_2 : fldOf Go.Proofs.Try.prog 46 2 = some (2, 1, false) := by kernel_rfl
@[go_sem] theorem ft46 : flatTy Go.Proofs.Try.prog 46 = false := by kernel_rfl
@[go_sem] theorem ty49 : tyOf Go.Proofs.Try.prog 49 = .slice 55 := by kernel_rfl
@[go_sem] theorem sz49 : szOf Go.Proofs.Try.prog 49 = 1 := by kernel_rfl
@[go_sem] theorem by49 : byOf Go.Proofs.Try.prog 49 = 24 := by kernel_rfl
@[go_sem] theorem kn49 : known Go.Proofs.Try.prog 49 = true := by kernel_rfl
@[go_sem] theorem zk49 : zeroOk Go.Proofs.Try.prog 49 = true := by kernel_rfl
@[go_sem] theorem ze49 : zeOf Go.Proofs.Try.prog 49 = .nils := by kernel_rfl
@[go_sem] theorem ty51 : tyOf Go.Proofs.Try.prog 51 = .slice 4 := by kernel_rfl
@[go_sem] theorem sz51 : szOf Go.Proofs.Try.prog 51 = 1 := by kernel_rfl
@[go_sem] theorem by51 : byOf Go.Proofs.Try.prog 51 = 24 := by kernel_rfl
@[go_sem] theorem kn51 : known Go.Proofs.Try.prog 51 = true := by kernel_rfl
@[go_sem] theorem zk51 : zeroOk Go.Proofs.Try.prog 51 = true := by kernel_rfl
@[go_sem] theorem ze51 : zeOf Go.Proofs.Try.prog 51 = .nils := by kernel_rfl
@[go_sem] theorem ty55 : tyOf Go.Proofs.Try.prog 55 = .strct [(0, 3), (1, 3), (2, 9), (3, 51), (4, 3)] := by kernel_rfl
@[go_sem] theorem sz55 : szOf Go.Proofs.Try.prog 55 = 5 := by kernel_rfl
@[go_sem] theorem by55 : byOf Go.Proofs.Try.prog 55 = 64 := by kernel_rfl
@[go_sem] theorem kn55 : known Go.Proofs.Try.prog 55 = true := by kernel_rfl
@[go_sem] theorem zk55 : zeroOk Go.Proofs.Try.prog 55 = true := by kernel_rfl
@[go_sem] theorem ze55 : zeOf Go.Proofs.Try.prog 55 = .agg [.int .i64 0, .int .i64 0, .str [], .nils, .int .i64 0] := by kernel_rfl
@[go_sem] theorem fl55_0 : fldOf Go.Proofs.Try.prog 55 0 = some (0, 1, false) := by kernel_rfl
@[go_sem] theorem fl55_1 : fldOf Go.Proofs.Try.prog 55 1 = some (1, 1, false) := by kernel_rfl
@[go_sem] theorem fl55_2 : fldOf Go.Proofs.Try.prog 55 2 = some (2, 1, false) := by kernel_rfl
@[go_sem] theorem fl55_3 : fldOf Go.Proofs.Try.prog 55 3 = some (3, 1, false) := by kernel_rfl
@[go_sem] theorem fl55_4 : fldOf Go.Proofs.Try.prog 55 4 = some (4, 1, false) := by kernel_rfl
@[go_sem] theorem ft55 : flatTy Go.Proofs.Try.prog 55 = false := by kernel_rfl
@[go_sem] theorem ty60 : tyOf Go.Proofs.Try.prog 60 = .strct [(0, 3), (1, 9)] := by kernel_rfl
@[go_sem] theorem sz60 : szOf Go.Proofs.Try.prog 60 = 2 := by kernel_rfl
@[go_sem] theorem by60 : byOf Go.Proofs.Try.prog 60 = 24 := by kernel_rfl
@[go_sem] theorem kn60 : known Go.Proofs.Try.prog 60 = true := by kernel_rfl
@[go_sem] theorem zk60 : zeroOk Go.Proofs.Try.prog 60 = true := by kernel_rfl
@[go_sem] theorem ze60 : zeOf Go.Proofs.Try.prog 60 = .agg [.int .i64 0, .str []] := by kernel_rfl
@[go_sem] theorem fl60_0 : fldOf Go.Proofs.Try.prog 60 0 = some (0, 1, false) := by kernel_rfl
@[go_sem] theorem fl60_1 : fldOf Go.Proofs.Try.prog 60 1 = some (1, 1, false) := by kernel_rfl
@[go_sem] theorem ft60 : flatTy Go.Proofs.Try.prog 60 = true := by kernel_rfl
@[go_sem] theorem ty67 : tyOf Go.Proofs.Try.prog 67 = .strct [(0, 3), (1, 3)] := by kernel_rfl
@[go_sem] theorem sz67 : szOf Go.Proofs.Try.prog 67 = 2 := by kernel_rfl
@[go_sem] theorem by67 : byOf Go.Proofs.Try.prog 67 = 16 := by kernel_rfl
@[go_sem] theorem kn67 : known Go.Proofs.Try.prog 67 = true := by kernel_rfl
@[go_sem] theorem zk67 : zeroOk Go.Proofs.Try.prog 67 = true := by kernel_rfl
@[go_sem] theorem ze67 : zeOf Go.Proofs.Try.prog 67 = .agg [.int .i64 0, .int .i64 0] := by kernel_rfl
@[go_sem] theorem fl67_0 : fldOf Go.Proofs.Try.prog 67 0 = some (0, 1, false) := by kernel_rfl
@[go_sem] theorem fl67_1 : fldOf Go.Proofs.Try.prog 67 1 = some (1, 1, false) := by kernel_rfl
@[go_sem] theorem ft67 : flatTy Go.Proofs.Try.prog 67 = true := by kernel_rfl
@[go_sem] theorem ty69 : tyOf Go.Proofs.Try.prog 69 = .strct [(0, 4), (1, 67), (3, 67), (5, 28), (6, 67)] := by kernel_rfl
@[go_sem] theorem sz69 : szOf Go.Proofs.Try.prog 69 = 8 := by kernel_rfl
@[go_sem] theorem by69 : byOf Go.Proofs.Try.prog 69 = 80 := by kernel_rfl
@[go_sem] theorem kn69 : known Go.Proofs.Try.prog 69 = true := by kernel_rfl
@[go_sem] theorem zk69 : zeroOk Go.Proofs.Try.prog 69 = true := by kernel_rfl
@[go_sem] theorem ze69 : zeOf Go.Proofs.Try.prog 69 = .agg [.bool false, .int .i64 0, .int .i64 0, .int .i64 0, .int .i64 0, .nils, .int .i64 0, .int .i64 0] := by kernel_rfl
@[go_sem] theorem fl69_0 : fldOf Go.Proofs.Try.prog 69 0 = some (0, 1, false) := by kernel_rfl
@[go_sem] theorem fl69_1 : fldOf Go.Proofs.Try.prog 69 1 = some (1, 2, true) := by kernel_rfl
@[go_sem] theorem fl69_2 : fldOf Go.Proofs.Try.prog 69 2 = some (3, 2, true) := by kernel_rfl
@[go_sem] theorem fl69_3 : fldOf Go.Proofs.Try.prog 69 3 = some (5, 1, false) := by kernel_rfl
@[go_sem] theorem fl69_4 : fldOf Go.Proofs.Try.prog 69 4 = some (6, 2, true) := by kernel_rfl
@[go_sem] theorem ft69 : flatTy Go.Proofs.Try.prog 69 = false := by kernel_rfl
@[go_sem] theorem ty81 : tyOf Go.Proofs.Try.prog 81 = .ptr 121 := by kernel_rfl
@[go_sem] theorem sz81 : szOf Go.Proofs.Try.prog 81 = 1 := by kernel_rfl
@[go_sem] theorem by81 : byOf Go.Proofs.Try.prog 81 = 8 := by kernel_rfl
@[go_sem] theorem kn81 : known Go.Proofs.Try.prog 81 = true := by kernel_rfl
@[go_sem] theorem zk81 : zeroOk Go.Proofs.Try.prog 81 = true := by kernel_rfl
@[go_sem] theorem ze81 : zeOf Go.Proofs.Try.prog 81 = .undef := by kernel_rfl
@[go_sem] theorem ty89 : tyOf Go.Proofs.Try.prog 89 = .strct [(0, 3), (1, 3)] := by kernel_rfl
@[go_sem] theorem sz89 : szOf Go.Proofs.Try.prog 89 = 2 := by kernel_rfl
@[go_sem] theorem by89 : byOf Go.Proofs.Try.prog 89 = 16 := by kernel_rfl
@[go_sem] theorem kn89 : known Go.Proofs.Try.prog 89 = true := by kernel_rfl
@[go_sem] theorem zk89 : zeroOk Go.Proofs.Try.prog 89 = true := by kernel_rfl
@[go_sem] theorem ze89 : zeOf Go.Proofs.Try.prog 89 = .agg [.int .i64 0, .int .i64 0] := by kernel_rfl
@[go_sem] theorem fl89_0 : fldOf Go.Proofs.Try.prog 89 0 = some (0, 1, false) := by kernel_rfl
@[go_sem] theorem fl89_1 : fldOf Go.Proofs.Try.prog 89 1 = some (1, 1, false) := by kernel_rfl
@[go_sem] theorem ft89 : flatTy Go.Proofs.Try.prog 89 = true := by kernel_rfl
@[go_sem] theorem ty91 : tyOf Go.Proofs.Try.prog 91 = .strct [(0, 4), (1, 89), (3, 89), (5, 28), (6, 89)] := by kernel_rfl
@[go_sem] theorem sz91 : szOf Go.Proofs.Try.prog 91 = 8 := by kernel_rfl
@[go_sem] theorem by91 : byOf Go.Proofs.Try.prog 91 = 80 := by kernel_rfl
@[go_sem] theorem kn91 : known Go.Proofs.Try.prog 91 = true := by kernel_rfl
@[go_sem] theorem zk91 : zeroOk Go.Proofs.Try.prog 91 = true := by kernel_rfl
@[go_sem] theorem ze91 : zeOf Go.Proofs.Try.prog 91 = .agg [.bool false, .int .i64 0, .int .i64 0, .int .i64 0, .int .i64 0, .nils, .int .i64 0, .int .i64 0] := by kernel_rfl
@[go_sem] theorem fl91_0 : fldOf Go.Proofs.Try.prog 91 0 = some (0, 1, false) := by kernel_rfl
@[go_sem] theorem fl91_1 : fldOf Go.Proofs.Try.prog 91 1 = some (1, 2, true) := by kernel_rfl
@[go_sem] theorem fl91_2 : fldOf Go.Proofs.Try.prog 91 2 = some (3, 2, true) := by kernel_rfl
@[go_sem] theorem fl91_3 : fldOf Go.Proofs.Try.prog 91 3 = some (5, 1, false) := by kernel_rfl
@[go_sem] theorem fl91_4 : fldOf Go.Proofs.Try.prog 91 4 = some (6, 2, true) := by kernel_rfl
@[go_sem] theorem ft91 : flatTy Go.Proofs.Try.prog 91 = false := by kernel_rfl
@[go_sem] theorem ty94 : tyOf Go.Proofs.Try.prog 94 = .strct [(0, 89), (2, 28), (3, 3), (4, 3)] := by kernel_rfl
@[go_sem] theorem sz94 : szOf Go.Proofs.Try.prog 94 = 5 := by kernel_rfl
@[go_sem] theorem by94 : byOf Go.Proofs.Try.prog 94 = 56 := by kernel_rfl
@[go_sem] theorem kn94 : known Go.Proofs.Try.prog 94 = true := by kernel_rfl
@[go_sem] theorem zk94 : zeroOk Go.Proofs.Try.prog 94 = true := by kernel_rfl
@[go_sem] theorem ze94 : zeOf Go.Proofs.Try.prog 94 = .agg [.int .i64 0, .int .i64 0, .nils, .int .i64 0, .int .i64 0] := by kernel_rfl
@[go_sem] theorem fl94_0 : fldOf Go.Proofs.Try.prog 94 0 = some (0, 2, true) := by kernel_rfl
@[go_sem] theorem fl94_1 : fldOf Go.Proofs.Try.prog 94 1 = some (2, 1, false) := by kernel_rfl
@[go_sem] theorem fl94_2 : fldOf Go.Proofs.Try.prog 94 2 = some (3, 1, false) := by kernel_rfl
@[go_sem] theorem fl94_3 : fldOf Go.Proofs.Try.prog 94 3 = some (4, 1, false) := by kernel_rfl
@[go_sem] theorem ft94 : flatTy Go.Proofs.Try.prog 94 = false := by kernel_rfl
@[go_sem] theorem ty97 : tyOf Go.Proofs.Try.prog 97 = .strct [(0, 28), (1, 89), (3, 3), (4, 3)] := by kernel_rfl
@[go_sem] theorem sz97 : szOf Go.Proofs.Try.prog 97 = 5 := by kernel_rfl
@[go_sem] theorem by97 : byOf Go.Proofs.Try.prog 97 = 56 := by kernel_rfl
@[go_sem] theorem kn97 : known Go.Proofs.Try.prog 97 = true := by kernel_rfl
@[go_sem] theorem zk97 : zeroOk Go.Proofs.Try.prog 97 = true := by kernel_rfl
@[go_sem] theorem ze97 : zeOf Go.Proofs.Try.prog 97 = .agg [.nils, .int .i64 0, .int .i64 0, .int .i64 0, .int .i64 0] := by kernel_rfl
@[go_sem] theorem fl97_0 : fldOf Go.Proofs.Try.prog 97 0 = some (0, 1, false) := by kernel_rfl
@[go_sem] theorem fl97_1 : fldOf Go.Proofs.Try.prog 97 1 = some (1, 2, true) := by kernel_rfl
@[go_sem] theorem fl97_2 : fldOf Go.Proofs.Try.prog 97 2 = some (3, 1, false) := by kernel_rfl
@[go_sem] theorem fl97_3 : fldOf Go.Proofs.Try.prog 97 3 = some (4, 1, false) := by kernel_rfl
@[go_sem] theorem ft97 : flatTy Go.Proofs.Try.prog 97 = false := by kernel_rfl
@[go_sem] theorem ty102 : tyOf Go.Proofs.Try.prog 102 = .strct [(0, 67), (2, 28), (3, 3), (4, 3)] := by kernel_rfl
@[go_sem] theorem sz102 : szOf Go.Proofs.Try.prog 102 = 5 := by kernel_rfl
@[go_sem] theorem by102 : byOf Go.Proofs.Try.prog 102 = 56 := by kernel_rfl
@[go_sem] theorem kn102 : known Go.Proofs.Try.prog 102 = true := by kernel_rfl
@[go_sem] theorem zk102 : zeroOk Go.Proofs.Try.prog 102 = true := by kernel_rfl
@[go_sem] theorem ze102 : zeOf Go.Proofs.Try.prog 102 = .agg [.int .i64 0, .int .i64 0, .nils, .int .i64 0, .int .i64 0] := by kernel_rfl
@[go_sem] theorem fl102_0 : fldOf Go.Proofs.Try.prog 102 0 = some (0, 2, true) := by kernel_rfl
@[go_sem] theorem fl102_1 : fldOf Go.Proofs.Try.prog 102 1 = some (2, 1, false) := by kernel_rfl
@[go_sem] theorem fl102_2 : fldOf Go.Proofs.Try.prog 102 2 = some (3, 1, false) := by kernel_rfl
@[go_sem] theorem fl102_3 : fldOf Go.Proofs.Try.prog 102 3 = some (4, 1, false) := by kernel_rfl
@[go_sem] theorem ft102 : flatTy Go.Proofs.Try.prog 102 = false := by kernel_rfl
@[go_sem] theorem ty104 : tyOf Go.Proofs.Try.prog 104 = .strct [(0, 28), (1, 67), (3, 3), (4, 3)] := by kernel_rfl
@[go_sem] theorem sz104 : szOf Go.Proofs.Try.prog 104 = 5 := by kernel_rfl
@[go_sem] theorem by104 : byOf Go.Proofs.Try.prog 104 = 56 := by kernel_rfl
@[go_sem] theorem kn104 : known Go.Proofs.Try.prog 104 = true := by kernel_rfl
@[go_sem] theorem zk104 : zeroOk Go.Proofs.Try.prog 104 = true := by kernel_rfl
@[go_sem] theorem ze104 : zeOf Go.Proofs.Try.prog 104 = .agg [.nils, .int .i64 0, .int .i64 0, .int .i64 0, .int .i64 0] := by kernel_rfl
@[go_sem] theorem fl104_0 : fldOf Go.Proofs.Try.prog 104 0 = some (0, 1, false) := by kernel_rfl
@[go_sem] theorem fl104_1 : fldOf Go.Proofs.Try.prog 104 1 = some (1, 2, true) := by kernel_rfl
@[go_sem] theorem fl104_2 : fldOf Go.Proofs.Try.prog 104 2 = some (3, 1, false) := by kernel_rfl
@[go_sem] theorem fl104_3 : fldOf Go.Proofs.Try.prog 104 3 = some (4, 1, false) := by kernel_rfl
@[go_sem] theorem ft104 : flatTy Go.Proofs.Try.prog 104 = false := by kernel_rfl
@[go_sem] theorem ty108 : tyOf Go.Proofs.Try.prog 108 = .func := by kernel_rfl
@[go_sem] theorem sz108 : szOf Go.Proofs.Try.prog 108 = 1 := by kernel_rfl
@[go_sem] theorem by108 : byOf Go.Proofs.Try.prog 108 = 8 := by kernel_rfl
@[go_sem] theorem kn108 : known Go.Proofs.Try.prog 108 = true := by kernel_rfl
@[go_sem] theorem zk108 : zeroOk Go.Proofs.Try.prog 108 = true := by kernel_rfl
@[go_sem] theorem ze108 : zeOf Go.Proofs.Try.prog 108 = .nilf := by kernel_rfl
@[go_sem] theorem ty112 : tyOf Go.Proofs.Try.prog 112 = .func := by kernel_rfl
@[go_sem] theorem sz112 : szOf Go.Proofs.Try.prog 112 = 1 := by kernel_rfl
@[go_sem] theorem by112 : byOf Go.Proofs.Try.prog 112 = 8 := by kernel_rfl
@[go_sem] theorem kn112 : known Go.Proofs.Try.prog 112 = true := by kernel_rfl
@[go_sem] theorem zk112 : zeroOk Go.Proofs.Try.prog 112 = true := by kernel_rfl
@[go_sem] theorem ze112 : zeOf Go.Proofs.Try.prog 112 = .nilf := by kernel_rfl
@[go_sem] theorem ty115 : tyOf Go.Proofs.Try.prog 115 = .func := by kernel_rfl
@[go_sem] theorem sz115 : szOf Go.Proofs.Try.prog 115 = 1 := by kernel_rfl
@[go_sem] theorem by115 : byOf Go.Proofs.Try.prog 115 = 8 := by kernel_rfl
@[go_sem] theorem kn115 : known Go.Proofs.Try.prog 115 = true := by kernel_rfl
@[go_sem] theorem zk115 : zeroOk Go.Proofs.Try.prog 115 = true := by kernel_rfl
@[go_sem] theorem ze115 : zeOf Go.Proofs.Try.prog 115 = .nilf := by kernel_rfl
@[go_sem] theorem ty121 : tyOf Go.Proofs.Try.prog 121 = .strct [(0, 42), (1, 3), (2, 3)] := by kernel_rfl
@[go_sem] theorem sz121 : szOf Go.Proofs.Try.prog 121 = 3 := by kernel_rfl
@[go_sem] theorem by121 : byOf Go.Proofs.Try.prog 121 = 40 := by kernel_rfl
@[go_sem] theorem kn121 : known Go.Proofs.Try.prog 121 = true := by kernel_rfl
@[go_sem] theorem zk121 : zeroOk Go.Proofs.Try.prog 121 = true := by kernel_rfl
@[go_sem] theorem ze121 : zeOf Go.Proofs.Try.prog 121 = .agg [.nils, .int .i64 0, .int .i64 0] := by kernel_rfl
@[go_sem] theorem fl121_0 : fldOf Go.Proofs.Try.prog 121 0 = some (0, 1, false) := by kernel_rfl
@[go_sem] theorem fl121_1 : fldOf Go.Proofs.Try.prog 121 1 = some (1, 1, false) := by kernel_rfl
@[go_sem] theorem fl121_2 : fldOf Go.Proofs.Try.prog 121 2 = some (2, 1, false) := by kernel_rfl
@[go_sem] theorem ft121 : flatTy Go.Proofs.Try.prog 121 = false := by kernel_rfl
@[go_sem] theorem ty122 : tyOf Go.Proofs.Try.prog 122 = .func := by kernel_rfl
@[go_sem] theorem sz122 : szOf Go.Proofs.Try.prog 122 = 1 := by kernel_rfl
@[go_sem] theorem by122 : byOf Go.Proofs.Try.prog 122 = 8 := by kernel_rfl
@[go_sem] theorem kn122 : known Go.Proofs.Try.prog 122 = true := by kernel_rfl
@[go_sem] theorem zk122 : zeroOk Go.Proofs.Try.prog 122 = true := by kernel_rfl
@[go_sem] theorem ze122 : zeOf Go.Proofs.Try.prog 122 = .nilf := by kernel_rfl
@[go_sem] theorem ty125 : tyOf Go.Proofs.Try.prog 125 = .func := by kernel_rfl
@[go_sem] theorem sz125 : szOf Go.Proofs.Try.prog 125 = 1 := by kernel_rfl
@[go_sem] theorem by125 : byOf Go.Proofs.Try.prog 125 = 8 := by kernel_rfl
@[go_sem] theorem kn125 : known Go.Proofs.Try.prog 125 = true := by kernel_rfl
@[go_sem] theorem zk125 : zeroOk Go.Proofs.Try.prog 125 = true := by kernel_rfl
@[go_sem] theorem ze125 : zeOf Go.Proofs.Try.prog 125 = .nilf := by kernel_rfl
@[go_sem] theorem ty128 : tyOf Go.Proofs.Try.prog 128 = .func := by kernel_rfl
@[go_sem] theorem sz128 : szOf Go.Proofs.Try.prog 128 = 1 := by kernel_rfl
@[go_sem] theorem by128 : byOf Go.Proofs.Try.prog 128 = 8 := by kernel_rfl
@[go_sem] theorem kn128 : known Go.Proofs.Try.prog 128 = true := by kernel_rfl
@[go_sem] theorem zk128 : zeroOk Go.Proofs.Try.prog 128 = true := by kernel_rfl
@[go_sem] theorem ze128 : zeOf Go.Proofs.Try.prog 128 = .nilf := by kernel_rfl
@[go_sem] theorem ty131 : tyOf Go.Proofs.Try.prog 131 = .ptr 46 := by kernel_rfl
@[go_sem] theorem sz131 : szOf Go.Proofs.Try.prog 131 = 1 := by kernel_rfl
@[go_sem] theorem by131 : byOf Go.Proofs.Try.prog 131 = 8 := by kernel_rfl
@[go_sem] theorem kn131 : known Go.Proofs.Try.prog 131 = true := by kernel_rfl
@[go_sem] theorem zk131 : zeroOk Go.Proofs.Try.prog 131 = true := by kernel_rfl
@[go_sem] theorem ze131 : zeOf Go.Proofs.Try.prog 131 = .undef := by kernel_rfl
@[go_sem] theorem an0q_0 : ann0 0 = {} := by kernel_rfl
@[go_sem] theorem an0q_1 : ann0 1 = {} := by kernel_rfl
@[go_sem] theorem an0q_2 : ann0 2 = {} := by kernel_rfl
@[go_sem] theorem an0q_3 : ann0 3 = { vs := [2, 4, 5, 6, 7, 8, 9, 10, 11, 12, 13, 14, 15] } := by kernel_rfl
@[go_sem] theorem an0q_4 : ann0 4 = { vs := [4, 5, 8, 9, 10, 11, 13, 14, 15, 16], keep := [(0, [(5, .v), (9, .v), (13, .v), (14, .v)]), (2, [(5, .v), (9, .v), (13, .v), (14, .v), (15, .v), (16, .v)])] } := by kernel_rfl
@[go_sem] theorem an0q_5 : ann0 5 = { vs := [2, 4] } := by kernel_rfl
@[go_sem] theorem an0q_6 : ann0 6 = { vs := [2, 4, 5, 6, 7], keep := [(0, [(1, .v), (2, .v), (6, .o 1 true), (7, .v)])] } := by kernel_rfl
@[go_sem] theorem an0q_7 : ann0 7 = { vs := [1, 2, 3] } := by kernel_rfl
@[go_sem] theorem an0q_8 : ann0 8 = { vs := [2, 4, 5, 6, 7, 8, 13, 14, 15], keep := [(0, [(1, .v), (6, .o 1 true), (13, .v), (14, .v), (15, .v)])] } := by kernel_rfl
@[go_sem] theorem an0q_9 : ann0 9 = { vs := [4, 5], keep := [(0, [(0, .v), (1, .v), (5, .v)])] } := by kernel_rfl
@[go_sem] theorem an0q_10 : ann0 10 = { vs := [2, 3, 4] } := by kernel_rfl
@[go_sem] theorem an0q_11 : ann0 11 = { vs := [2, 4], modes := [.l] } := by kernel_rfl
@[go_sem] theorem an0q_12 : ann0 12 = { vs := [4, 5], keep := [(0, [(0, .v), (1, .v), (5, .v)])], modes := [.l] } := by kernel_rfl
@[go_sem] theorem an0q_13 : ann0 13 = { vs := [4, 5], keep := [(0, [(0, .v), (1, .v), (5, .v)])] } := by kernel_rfl
@[go_sem] theorem an0q_14 : ann0 14 = { vs := [4, 5, 6, 7, 8, 9, 10, 11, 12], keep := [(0, [(1, .v), (4, .v), (7, .v), (9, .o 1 true), (10, .v)]), (3000000, [(7, .o 0 false)])] } := by kernel_rfl
@[go_sem] theorem an0q_15 : ann0 15 = { vs := [4] } := by kernel_rfl
@[go_sem] theorem an0q_16 : ann0 16 = { vs := [4] } := by kernel_rfl
@[go_sem] theorem an0q_17 : ann0 17 = { vs := [6] } := by kernel_rfl
@[go_sem] theorem an0q_18 : ann0 18 = { vs := [2, 3, 4, 5, 6, 7] } := by kernel_rfl
@[go_sem] theorem an0q_19 : ann0 19 = { vs := [2, 3, 4, 5, 6, 7] } := by kernel_rfl
@[go_sem] theorem an0q_20 : ann0 20 = { vs := [4, 5], keep := [(0, [(0, .v), (1, .v), (5, .v)])] } := by kernel_rfl
@[go_sem] theorem an0q_21 : ann0 21 = { vs := [4, 5], keep := [(0, [(0, .v), (1, .v), (5, .v)])] } := by kernel_rfl
@[go_sem] theorem an0q_22 : ann0 22 = { vs := [4, 5], keep := [(0, [(0, .v), (1, .v), (5, .v)])] } := by kernel_rfl
@[go_sem] theorem an0q_23 : ann0 23 = { vs := [4, 5], keep := [(0, [(0, .v), (1, .v), (5, .v)])] } := by kernel_rfl
@[go_sem] theorem an0q_24 : ann0 24 = { vs := [1, 2, 3, 4, 5, 6, 7, 8, 9], keep := [(0, [(1, .v), (3, .v), (4, .v)]), (2, [(1, .v), (3, .v), (6, .v)]), (4, [(1, .v), (3, .v), (8, .v)])] } := by kernel_rfl
@[go_sem] theorem an0q_25 : ann0 25 = { vs := [2, 3, 4], keep := [(0, [(0, .v), (3, .v), (4, .v)])] } := by kernel_rfl
@[go_sem] theorem an0q_26 : ann0 26 = { vs := [2, 3, 4], keep := [(0, [(0, .v), (3, .v), (4, .v)])] } := by kernel_rfl
@[go_sem] theorem an0q_27 : ann0 27 = { vs := [2, 3, 4], keep := [(0, [(0, .v), (3, .v), (4, .v)])] } := by kernel_rfl
@[go_sem] theorem an0q_28 : ann0 28 = { vs := [1, 2, 3, 4, 29, 30, 31], keep := [(0, [(1, .v), (29, .v), (30, .v), (31, .v)])] } := by kernel_rfl
@[go_sem] theorem an0q_29 : ann0 29 = { vs := [4, 5], keep := [(0, [(0, .v), (1, .v), (5, .v)])] } := by kernel_rfl
@[go_sem] theorem an0q_30 : ann0 30 = { vs := [4, 5], keep := [(0, [(0, .v), (1, .v), (5, .v)])] } := by kernel_rfl
@[go_sem] theorem an0q_31 : ann0 31 = { vs := [4, 5], keep := [(0, [(0, .v), (1, .v), (5, .v)])] } := by kernel_rfl
@[go_sem] theorem an0q_32 : ann0 32 = { vs := [4, 5], keep := [(0, [(0, .v), (1, .v), (5, .v)])], modes := [.l] } := by kernel_rfl
@[go_sem] theorem an0q_33 : ann0 33 = { vs := [4, 5], keep := [(0, [(0, .v), (1, .v), (5, .v)])], modes := [.l] } := by kernel_rfl
@[go_sem] theorem an0q_34 : ann0 34 = { vs := [4, 5], keep := [(0, [(0, .v), (1, .v), (5, .v)])], modes := [.l] } := by kernel_rfl
@[go_sem] theorem an0q_35 : ann0 35 = { vs := [2, 3] } := by kernel_rfl
@[go_sem] theorem an0q_36 : ann0 36 = { vs := [2, 3, 4, 5, 6, 7, 8, 9, 11] } := by kernel_rfl
@[go_sem] theorem an0q_37 : ann0 37 = { vs := [1, 2], keep := [(1000001, [])] } := by kernel_rfl
@[go_sem] theorem an0q_38 : ann0 38 = { vs := [2] } := by kernel_rfl
@[go_sem] theorem an0q_39 : ann0 39 = { vs := [4, 5, 6, 7, 30], keep := [(0, [(0, .v), (1, .v), (5, .o 5 false), (6, .v)])], modes := [.l] } := by kernel_rfl
@[go_sem] theorem an0q_40 : ann0 40 = { vs := [4, 5, 6], keep := [(0, [(0, .v), (5, .o 1 true), (6, .v)])], modes := [.l] } := by kernel_rfl
@[go_sem] theorem an0q_41 : ann0 41 = { vs := [1, 2] } := by kernel_rfl
@[go_sem] theorem an0q_42 : ann0 42 = { vs := [1, 2] } := by kernel_rfl
@[go_sem] theorem an0q_43 : ann0 43 = { vs := [3, 4, 5, 7] } := by kernel_rfl
@[go_sem] theorem an0q_44 : ann0 44 = { vs := [1, 2, 3, 4, 5], keep := [(0, [(1, .v), (3, .v)]), (2, [(1, .v), (4, .v)]), (4, [(1, .v), (5, .v)])] } := by kernel_rfl
@[go_sem] theorem an0q_45 : ann0 45 = { vs := [2, 4] } := by kernel_rfl
@[go_sem] theorem an0q_46 : ann0 46 = { vs := [2, 4] } := by kernel_rfl
@[go_sem] theorem an0q_47 : ann0 47 = { vs := [2, 4] } := by kernel_rfl
@[go_sem] theorem an0q_48 : ann0 48 = { vs := [6] } := by kernel_rfl
@[go_sem] theorem an0q_49 : ann0 49 = { vs := [1, 2] } := by kernel_rfl
@[go_sem] theorem an0q_50 : ann0 50 = { vs := [4, 5], keep := [(0, [(0, .v), (1, .v), (5, .v)])] } := by kernel_rfl
@[go_sem] theorem an0q_51 : ann0 51 = { vs := [1, 2, 3] } := by kernel_rfl
@[go_sem] theorem an0q_52 : ann0 52 = { vs := [1, 2, 3] } := by kernel_rfl
@[go_sem] theorem an0q_53 : ann0 53 = { vs := [1, 2, 3] } := by kernel_rfl
@[go_sem] theorem an0q_54 : ann0 54 = { vs := [2] } := by kernel_rfl
@[go_sem] theorem an0q_55 : ann0 55 = { vs := [6] } := by kernel_rfl
@[go_sem] theorem an0q_56 : ann0 56 = { vs := [3, 5, 6] } := by kernel_rfl
@[go_sem] theorem an0q_57 : ann0 57 = { vs := [3, 4] } := by kernel_rfl
@[go_sem] theorem an0q_58 : ann0 58 = { vs := [2, 3] } := by kernel_rfl
@[go_sem] theorem an0q_59 : ann0 59 = { vs := [1, 2] } := by kernel_rfl
@[go_sem] theorem an0q_60 : ann0 60 = { vs := [2, 4] } := by kernel_rfl
@[go_sem] theorem an0q_61 : ann0 61 = { vs := [3, 4] } := by kernel_rfl
@[go_sem] theorem an0q_62 : ann0 62 = { vs := [2, 3] } := by kernel_rfl
@[go_sem] theorem an0q_63 : ann0 63 = { vs := [3, 6] } := by kernel_rfl
@[go_sem] theorem an0q_64 : ann0 64 = { vs := [2, 3, 4] } := by kernel_rfl
@[go_sem] theorem an0q_65 : ann0 65 = { vs := [2, 3, 4] } := by kernel_rfl
@[go_sem] theorem an0q_66 : ann0 66 = { vs := [2, 3, 4] } := by kernel_rfl
@[go_sem] theorem an0q_67 : ann0 67 = { vs := [1, 2, 3, 4], keep := [(0, [(1, .v), (2, .v), (3, .v), (4, .v)])] } := by kernel_rfl
@[go_sem] theorem an0q_68 : ann0 68 = { vs := [3, 6, 7, 8, 9, 10, 11, 12], keep := [(0, [(1, .v), (2, .v), (3, .v), (6, .v), (7, .v), (8, .v), (9, .v)])] } := by kernel_rfl
@[go_sem] theorem an0q_69 : ann0 69 = { vs := [4, 5, 6, 7], modes := [.l] } := by kernel_rfl
@[go_sem] theorem an0q_70 : ann0 70 = { vs := [4] } := by kernel_rfl
@[go_sem] theorem an0q_71 : ann0 71 = { vs := [2], modes := [.l] } := by kernel_rfl
@[go_sem] theorem an0q_72 : ann0 72 = { vs := [4], modes := [.l] } := by kernel_rfl
@[go_sem] theorem an0q_73 : ann0 73 = { vs := [3, 4] } := by kernel_rfl
@[go_sem] theorem an0q_74 : ann0 74 = { vs := [2] } := by kernel_rfl
@[go_sem] theorem an0q_75 : ann0 75 = { vs := [2] } := by kernel_rfl
@[go_sem] theorem an0q_76 : ann0 76 = { vs := [3, 4] } := by kernel_rfl
@[go_sem] theorem an0q_77 : ann0 77 = { vs := [2, 3] } := by kernel_rfl
@[go_sem] theorem an0q_78 : ann0 78 = { vs := [2, 4] } := by kernel_rfl
@[go_sem] theorem an0q_79 : ann0 79 = { vs := [2] } := by kernel_rfl
@[go_sem] theorem an0q_80 : ann0 80 = { vs := [2] } := by kernel_rfl
@[go_sem] theorem an0q_81 : ann0 81 = { vs := [2, 3, 4] } := by kernel_rfl
@[go_sem] theorem an0q_82 : ann0 82 = { vs := [3, 7, 8, 9], keep := [(0, [(0, .v), (7, .v), (8, .v), (9, .v)])] } := by kernel_rfl
@[go_sem] theorem an0q_83 : ann0 83 = { vs := [6, 7, 8, 9, 10, 14, 15, 16], keep := [(0, [(0, .v), (1, .v), (2, .v), (6, .v), (14, .v), (15, .v), (16, .v)])] } := by kernel_rfl
@[go_sem] theorem an0q_84 : ann0 84 = { vs := [4] } := by kernel_rfl
@[go_sem] theorem an0q_85 : ann0 85 = { vs := [1, 2, 3] } := by kernel_rfl
@[go_sem] theorem an0q_86 : ann0 86 = { vs := [2, 3, 4], keep := [(0, [(0, .v), (3, .v), (4, .v)])] } := by kernel_rfl
@[go_sem] theorem an0q_87 : ann0 87 = { vs := [4] } := by kernel_rfl
@[go_sem] theorem an0q_88 : ann0 88 = { vs := [2, 3] } := by kernel_rfl
@[go_sem] theorem an0q_89 : ann0 89 = { vs := [3, 4] } := by kernel_rfl
@[go_sem] theorem an0q_90 : ann0 90 = { vs := [2, 4] } := by kernel_rfl
@[go_sem] theorem an0q_91 : ann0 91 = { vs := [4, 5], keep := [(0, [(0, .v), (1, .v), (5, .v)])] } := by kernel_rfl
@[go_sem] theorem an0q_92 : ann0 92 = { vs := [2] } := by kernel_rfl
@[go_sem] theorem an0q_93 : ann0 93 = { vs := [4] } := by kernel_rfl
@[go_sem] theorem an0q_94 : ann0 94 = { vs := [2, 3] } := by kernel_rfl
@[go_sem] theorem an0q_95 : ann0 95 = { vs := [2, 3, 4] } := by kernel_rfl
@[go_sem] theorem an0q_96 : ann0 96 = { vs := [2], modes := [.l] } := by kernel_rfl
@[go_sem] theorem an0q_97 : ann0 97 = { vs := [4], modes := [.l] } := by kernel_rfl
@[go_sem] theorem an0q_98 : ann0 98 = { vs := [4] } := by kernel_rfl
@[go_sem] theorem an0q_99 : ann0 99 = { vs := [3] } := by kernel_rfl
@[go_sem] theorem an0q_100 : ann0 100 = { vs := [4] } := by kernel_rfl
@[go_sem] theorem an0q_101 : ann0 101 = { vs := [2, 3] } := by kernel_rfl
@[go_sem] theorem an0q_102 : ann0 102 = { vs := [4, 5, 7, 8], keep := [(0, [(0, .v), (1, .v), (7, .v), (8, .v)])] } := by kernel_rfl
@[go_sem] theorem an0q_103 : ann0 103 = { vs := [4] } := by kernel_rfl
@[go_sem] theorem an0q_104 : ann0 104 = { vs := [3] } := by kernel_rfl
@[go_sem] theorem an0q_105 : ann0 105 = { vs := [4, 5, 7, 8], keep := [(0, [(0, .v), (1, .v), (7, .v), (8, .v)])] } := by kernel_rfl
@[go_sem] theorem an0q_106 : ann0 106 = { vs := [4, 5, 7, 8], keep := [(0, [(0, .v), (1, .v), (7, .v), (8, .v)])] } := by kernel_rfl
@[go_sem] theorem an0q_107 : ann0 107 = { vs := [4, 5, 7, 8], keep := [(0, [(0, .v), (1, .v), (7, .v), (8, .v)])] } := by kernel_rfl
@[go_sem] theorem an0q_108 : ann0 108 = { vs := [4, 5, 7, 8], keep := [(0, [(0, .v), (1, .v), (7, .v), (8, .v)])] } := by kernel_rfl
@[go_sem] theorem an0q_109 : ann0 109 = {} := by kernel_rfl
@[go_sem] theorem an0q_110 : ann0 110 = {} := by kernel_rfl
@[go_sem] theorem an0q_111 : ann0 111 = {} := by kernel_rfl
@[go_sem] theorem an0q_112 : ann0 112 = {} := by kernel_rfl
@[go_sem] theorem an0q_113 : ann0 113 = {} := by kernel_rfl
@[go_sem] theorem an0q_114 : ann0 114 = {} := by kernel_rfl
@[go_sem] theorem an0q_115 : ann0 115 = {} := by kernel_rfl
@[go_sem] theorem an0q_116 : ann0 116 = {} := by kernel_rfl
@[go_sem] theorem an0q_117 : ann0 117 = {} := by kernel_rfl
@[go_sem] theorem an0q_118 : ann0 118 = {} := by kernel_rfl
@[go_sem] theorem an0q_119 : ann0 119 = {} := by kernel_rfl
@[go_sem] theorem an0q_120 : ann0 120 = {} := by kernel_rfl
@[go_sem] theorem an0q_121 : ann0 121 = {} := by kernel_rfl
@[go_sem] theorem an0q_122 : ann0 122 = {} := by kernel_rfl
@[go_sem] theorem an0q_123 : ann0 123 = {} := by kernel_rfl
@[go_sem] theorem an0q_124 : ann0 124 = {} := by kernel_rfl
@[go_sem] theorem an0q_125 : ann0 125 = {} := by kernel_rfl
@[go_sem] theorem an1q_0 : ann1 0 = {} := by kernel_rfl
@[go_sem] theorem an1q_1 : ann1 1 = {} := by kernel_rfl
@[go_sem] theorem an1q_2 : ann1 2 = {} := by kernel_rfl
@[go_sem] theorem an1q_3 : ann1 3 = { vs := [2, 4, 5, 6, 7, 8, 9, 10, 11, 12, 13, 14, 15] } := by kernel_rfl
@[go_sem] theorem an1q_4 : ann1 4 = { vs := [4, 5, 8, 9, 10, 11, 13, 14, 15, 16], keep := [(0, [(5, .v), (9, .v), (13, .v), (14, .v)]), (2, [(5, .v), (9, .v), (13, .v), (14, .v), (15, .v), (16, .v)])] } := by kernel_rfl
@[go_sem] theorem an1q_5 : ann1 5 = { vs := [2, 4] } := by kernel_rfl
@[go_sem] theorem an1q_6 : ann1 6 = { vs := [2, 4, 5, 6, 7], keep := [(0, [(1, .v), (2, .v), (6, .o 1 true), (7, .v)])] } := by kernel_rfl
@[go_sem] theorem an1q_7 : ann1 7 = { vs := [1, 2, 3] } := by kernel_rfl
@[go_sem] theorem an1q_8 : ann1 8 = { vs := [2, 4, 5, 6, 7, 8, 13, 14, 15], keep := [(0, [(1, .v), (6, .o 1 true), (13, .v), (14, .v), (15, .v)])] } := by kernel_rfl
@[go_sem] theorem an1q_9 : ann1 9 = { vs := [4, 5], keep := [(0, [(0, .v), (1, .v), (5, .v)])] } := by kernel_rfl
@[go_sem] theorem an1q_10 : ann1 10 = { vs := [2, 3, 4] } := by kernel_rfl
@[go_sem] theorem an1q_11 : ann1 11 = { vs := [2, 4], modes := [.l] } := by kernel_rfl
@[go_sem] theorem an1q_12 : ann1 12 = { vs := [4, 5], keep := [(0, [(0, .v), (1, .v), (5, .v)])], modes := [.l] } := by kernel_rfl
@[go_sem] theorem an1q_13 : ann1 13 = { vs := [4, 5], keep := [(0, [(0, .v), (1, .v), (5, .v)])] } := by kernel_rfl
@[go_sem] theorem an1q_14 : ann1 14 = { vs := [4, 5, 6, 7, 8, 9, 10, 11, 12], keep := [(0, [(1, .v), (4, .v), (7, .v), (9, .o 1 true), (10, .v)]), (3000000, [(7, .o 0 false)])] } := by kernel_rfl
@[go_sem] theorem an1q_15 : ann1 15 = { vs := [4] } := by kernel_rfl
@[go_sem] theorem an1q_16 : ann1 16 = { vs := [4] } := by kernel_rfl
@[go_sem] theorem an1q_17 : ann1 17 = { vs := [6] } := by kernel_rfl
@[go_sem] theorem an1q_18 : ann1 18 = { vs := [2, 3, 4, 5, 6, 7] } := by kernel_rfl
@[go_sem] theorem an1q_19 : ann1 19 = { vs := [2, 3, 4, 5, 6, 7] } := by kernel_rfl
@[go_sem] theorem an1q_20 : ann1 20 = { vs := [4, 5], keep := [(0, [(0, .v), (1, .v), (5, .v)])] } := by kernel_rfl
@[go_sem] theorem an1q_21 : ann1 21 = { vs := [4, 5], keep := [(0, [(0, .v), (1, .v), (5, .v)])] } := by kernel_rfl
@[go_sem] theorem an1q_22 : ann1 22 = { vs := [4, 5], keep := [(0, [(0, .v), (1, .v), (5, .v)])] } := by kernel_rfl
@[go_sem] theorem an1q_23 : ann1 23 = { vs := [4, 5], keep := [(0, [(0, .v), (1, .v), (5, .v)])] } := by kernel_rfl
@[go_sem] theorem an1q_24 : ann1 24 = { vs := [1, 2, 3, 4, 5, 6, 7, 8, 9], keep := [(0, [(1, .v), (3, .v), (4, .v)]), (2, [(1, .v), (3, .v), (6, .v)]), (4, [(1, .v), (3, .v), (8, .v)])] } := by kernel_rfl
@[go_sem] theorem an1q_25 : ann1 25 = { vs := [2, 3, 4], keep := [(0, [(0, .v), (3, .v), (4, .v)])] } := by kernel_rfl
@[go_sem] theorem an1q_26 : ann1 26 = { vs := [2, 3, 4], keep := [(0, [(0, .v), (3, .v), (4, .v)])] } := by kernel_rfl
@[go_sem] theorem an1q_27 : ann1 27 = { vs := [2, 3, 4], keep := [(0, [(0, .v), (3, .v), (4, .v)])] } := by kernel_rfl
@[go_sem] theorem an1q_28 : ann1 28 = { vs := [1, 2, 3, 4, 29, 30, 31], keep := [(0, [(1, .v), (29, .v), (30, .v), (31, .v)])] } := by kernel_rfl
@[go_sem] theorem an1q_29 : ann1 29 = { vs := [4, 5], keep := [(0, [(0, .v), (1, .v), (5, .v)])] } := by kernel_rfl
@[go_sem] theorem an1q_30 : ann1 30 = { vs := [4, 5], keep := [(0, [(0, .v), (1, .v), (5, .v)])] } := by kernel_rfl
@[go_sem] theorem an1q_31 : ann1 31 = { vs := [4, 5], keep := [(0, [(0, .v), (1, .v), (5, .v)])] } := by kernel_rfl
@[go_sem] theorem an1q_32 : ann1 32 = { vs := [4, 5], keep := [(0, [(0, .v), (1, .v), (5, .v)])], modes := [.l] } := by kernel_rfl
@[go_sem] theorem an1q_33 : ann1 33 = { vs := [4, 5], keep := [(0, [(0, .v), (1, .v), (5, .v)])], modes := [.l] } := by kernel_rfl
@[go_sem] theorem an1q_34 : ann1 34 = { vs := [4, 5], keep := [(0, [(0, .v), (1, .v), (5, .v)])], modes := [.l] } := by kernel_rfl
@[go_sem] theorem an1q_35 : ann1 35 = { vs := [2, 3] } := by kernel_rfl
@[go_sem] theorem an1q_36 : ann1 36 = { vs := [2, 3, 4, 5, 6, 7, 8, 9, 11] } := by kernel_rfl
@[go_sem] theorem an1q_37 : ann1 37 = { vs := [1, 2], keep := [(1000001, [])] } := by kernel_rfl
@[go_sem] theorem an1q_38 : ann1 38 = { vs := [2] } := by kernel_rfl
@[go_sem] theorem an1q_39 : ann1 39 = { vs := [4, 5, 6, 7, 30], keep := [(0, [(0, .v), (1, .v), (5, .o 5 false), (6, .v)])], modes := [.l] } := by kernel_rfl
@[go_sem] theorem an1q_40 : ann1 40 = { vs := [4, 5, 6], keep := [(0, [(0, .v), (5, .o 1 true), (6, .v)])], modes := [.l] } := by kernel_rfl
@[go_sem] theorem an1q_41 : ann1 41 = { vs := [1, 2] } := by kernel_rfl
@[go_sem] theorem an1q_42 : ann1 42 = { vs := [1, 2] } := by kernel_rfl
@[go_sem] theorem an1q_43 : ann1 43 = { vs := [3, 4, 5, 7] } := by kernel_rfl
@[go_sem] theorem an1q_44 : ann1 44 = { vs := [1, 2, 3, 4, 5], keep := [(0, [(1, .v), (3, .v)]), (2, [(1, .v), (4, .v)]), (4, [(1, .v), (5, .v)])] } := by kernel_rfl
@[go_sem] theorem an1q_45 : ann1 45 = { vs := [2, 4] } := by kernel_rfl
@[go_sem] theorem an1q_46 : ann1 46 = { vs := [2, 4] } := by kernel_rfl
@[go_sem] theorem an1q_47 : ann1 47 = { vs := [2, 4] } := by kernel_rfl
@[go_sem] theorem an1q_48 : ann1 48 = { vs := [6] } := by kernel_rfl
@[go_sem] theorem an1q_49 : ann1 49 = { vs := [1, 2] } := by kernel_rfl
@[go_sem] theorem an1q_50 : ann1 50 = { vs := [4, 5], keep := [(0, [(0, .v), (1, .v), (5, .v)])] } := by kernel_rfl
@[go_sem] theorem an1q_51 : ann1 51 = { vs := [1, 2, 3] } := by kernel_rfl
@[go_sem] theorem an1q_52 : ann1 52 = { vs := [1, 2, 3] } := by kernel_rfl
@[go_sem] theorem an1q_53 : ann1 53 = { vs := [1, 2, 3] } := by kernel_rfl
@[go_sem] theorem an1q_54 : ann1 54 = { vs := [2] } := by kernel_rfl
@[go_sem] theorem an1q_55 : ann1 55 = { vs := [6] } := by kernel_rfl
@[go_sem] theorem an1q_56 : ann1 56 = { vs := [3, 5, 6] } := by kernel_rfl
@[go_sem] theorem an1q_57 : ann1 57 = { vs := [3, 4] } := by kernel_rfl
@[go_sem] theorem an1q_58 : ann1 58 = { vs := [2, 3] } := by kernel_rfl
@[go_sem] theorem an1q_59 : ann1 59 = { vs := [1, 2] } := by kernel_rfl
@[go_sem] theorem an1q_60 : ann1 60 = { vs := [2, 4] } := by kernel_rfl
@[go_sem] theorem an1q_61 : ann1 61 = { vs := [3, 4] } := by kernel_rfl
@[go_sem] theorem an1q_62 : ann1 62 = { vs := [2, 3] } := by kernel_rfl
@[go_sem] theorem an1q_63 : ann1 63 = { vs := [3, 6] } := by kernel_rfl
@[go_sem] theorem an1q_64 : ann1 64 = { vs := [2, 3, 4] } := by kernel_rfl
@[go_sem] theorem an1q_65 : ann1 65 = { vs := [2, 3, 4] } := by kernel_rfl
@[go_sem] theorem an1q_66 : ann1 66 = { vs := [2, 3, 4] } := by kernel_rfl
@[go_sem] theorem an1q_67 : ann1 67 = { vs := [1, 2, 3, 4], keep := [(0, [(1, .v), (2, .v), (3, .v), (4, .v)])] } := by kernel_rfl
@[go_sem] theorem an1q_68 : ann1 68 = { vs := [3, 6, 7, 8, 9, 10, 11, 12], keep := [(0, [(1, .v), (2, .v), (3, .v), (6, .v), (7, .v), (8, .v), (9, .v)])] } := by kernel_rfl
@[go_sem] theorem an1q_69 : ann1 69 = { vs := [4, 5, 6, 7], modes := [.l] } := by kernel_rfl
@[go_sem] theorem an1q_70 : ann1 70 = { vs := [4] } := by kernel_rfl
@[go_sem] theorem an1q_71 : ann1 71 = { vs := [2], modes := [.l] } := by kernel_rfl
@[go_sem] theorem an1q_72 : ann1 72 = { vs := [4], modes := [.l] } := by kernel_rfl
@[go_sem] theorem an1q_73 : ann1 73 = { vs := [3, 4] } := by kernel_rfl
@[go_sem] theorem an1q_74 : ann1 74 = { vs := [2] } := by kernel_rfl
@[go_sem] theorem an1q_75 : ann1 75 = { vs := [2] } := by kernel_rfl
@[go_sem] theorem an1q_76 : ann1 76 = { vs := [3, 4] } := by kernel_rfl
@[go_sem] theorem an1q_77 : ann1 77 = { vs := [2, 3] } := by kernel_rfl
@[go_sem] theorem an1q_78 : ann1 78 = { vs := [2, 4] } := by kernel_rfl
@[go_sem] theorem an1q_79 : ann1 79 = { vs := [2] } := by kernel_rfl
@[go_sem] theorem an1q_80 : ann1 80 = { vs := [2] } := by kernel_rfl
@[go_sem] theorem an1q_81 : ann1 81 = { vs := [2, 3, 4] } := by kernel_rfl
@[go_sem] theorem an1q_82 : ann1 82 = { vs := [3, 7, 8, 9], keep := [(0, [(0, .v), (7, .v), (8, .v), (9, .v)])] } := by kernel_rfl
@[go_sem] theorem an1q_83 : ann1 83 = { vs := [6, 7, 8, 9, 10, 14, 15, 16], keep := [(0, [(0, .v), (1, .v), (2, .v), (6, .v), (14, .v), (15, .v), (16, .v)])], deep := some (deepG Go.Proofs.Try.prog ann0 (fun _ => none) 83) } := by kernel_rfl
@[go_sem] theorem an1q_84 : ann1 84 = { vs := [4] } := by kernel_rfl
@[go_sem] theorem an1q_85 : ann1 85 = { vs := [1, 2, 3] } := by kernel_rfl
@[go_sem] theorem an1q_86 : ann1 86 = { vs := [2, 3, 4], keep := [(0, [(0, .v), (3, .v), (4, .v)])] } := by kernel_rfl
@[go_sem] theorem an1q_87 : ann1 87 = { vs := [4] } := by kernel_rfl
@[go_sem] theorem an1q_88 : ann1 88 = { vs := [2, 3] } := by kernel_rfl
@[go_sem] theorem an1q_89 : ann1 89 = { vs := [3, 4] } := by kernel_rfl
@[go_sem] theorem an1q_90 : ann1 90 = { vs := [2, 4] } := by kernel_rfl
@[go_sem] theorem an1q_91 : ann1 91 = { vs := [4, 5], keep := [(0, [(0, .v), (1, .v), (5, .v)])] } := by kernel_rfl
@[go_sem] theorem an1q_92 : ann1 92 = { vs := [2] } := by kernel_rfl
@[go_sem] theorem an1q_93 : ann1 93 = { vs := [4] } := by kernel_rfl
@[go_sem] theorem an1q_94 : ann1 94 = { vs := [2, 3] } := by kernel_rfl
@[go_sem] theorem an1q_95 : ann1 95 = { vs := [2, 3, 4] } := by kernel_rfl
@[go_sem] theorem an1q_96 : ann1 96 = { vs := [2], modes := [.l] } := by kernel_rfl
@[go_sem] theorem an1q_97 : ann1 97 = { vs := [4], modes := [.l] } := by kernel_rfl
@[go_sem] theorem an1q_98 : ann1 98 = { vs := [4] } := by kernel_rfl
@[go_sem] theorem an1q_99 : ann1 99 = { vs := [3] } := by kernel_rfl
@[go_sem] theorem an1q_100 : ann1 100 = { vs := [4] } := by kernel_rfl
@[go_sem] theorem an1q_101 : ann1 101 = { vs := [2, 3] } := by kernel_rfl
@[go_sem] theorem an1q_102 : ann1 102 = { vs := [4, 5, 7, 8], keep := [(0, [(0, .v), (1, .v), (7, .v), (8, .v)])] } := by kernel_rfl
@[go_sem] theorem an1q_103 : ann1 103 = { vs := [4] } := by kernel_rfl
@[go_sem] theorem an1q_104 : ann1 104 = { vs := [3] } := by kernel_rfl
@[go_sem] theorem an1q_105 : ann1 105 = { vs := [4, 5, 7, 8], keep := [(0, [(0, .v), (1, .v), (7, .v), (8, .v)])] } := by kernel_rfl
@[go_sem] theorem an1q_106 : ann1 106 = { vs := [4, 5, 7, 8], keep := [(0, [(0, .v), (1, .v), (7, .v), (8, .v)])] } := by kernel_rfl
@[go_sem] theorem an1q_107 : ann1 107 = { vs := [4, 5, 7, 8], keep := [(0, [(0, .v), (1, .v), (7, .v), (8, .v)])] } := by kernel_rfl
@[go_sem] theorem an1q_108 : ann1 108 = { vs := [4, 5, 7, 8], keep := [(0, [(0, .v), (1, .v), (7, .v), (8, .v)])] } := by kernel_rfl
@[go_sem] theorem an1q_109 : ann1 109 = {} := by kernel_rfl
@[go_sem] theorem an1q_110 : ann1 110 = {} := by kernel_rfl
@[go_sem] theorem an1q_111 : ann1 111 = {} := by kernel_rfl
@[go_sem] theorem an1q_112 : ann1 112 = {} := by kernel_rfl
@[go_sem] theorem an1q_113 : ann1 113 = {} := by kernel_rfl
@[go_sem] theorem an1q_114 : ann1 114 = {} := by kernel_rfl
@[go_sem] theorem an1q_115 : ann1 115 = {} := by kernel_rfl
@[go_sem] theorem an1q_116 : ann1 116 = {} := by kernel_rfl
@[go_sem] theorem an1q_117 : ann1 117 = {} := by kernel_rfl
@[go_sem] theorem an1q_118 : ann1 118 = {} := by kernel_rfl
@[go_sem] theorem an1q_119 : ann1 119 = {} := by kernel_rfl
@[go_sem] theorem an1q_120 : ann1 120 = {} := by kernel_rfl
@[go_sem] theorem an1q_121 : ann1 121 = {} := by kernel_rfl
@[go_sem] theorem an1q_122 : ann1 122 = {} := by kernel_rfl
@[go_sem] theorem an1q_123 : ann1 123 = {} := by kernel_rfl
@[go_sem] theorem an1q_124 : ann1 124 = {} := by kernel_rfl
@[go_sem] theorem an1q_125 : ann1 125 = {} := by kernel_rfl
@[go_sem] theorem an_0 : ann 0 = {} := by kernel_rfl
@[go_sem] theorem an_1 : ann 1 = {} := by kernel_rfl
@[go_sem] theorem an_2 : ann 2 = {} := by kernel_rfl
@[go_sem] theorem an_3 : ann 3 = { vs := [2, 4, 5, 6, 7, 8, 9, 10, 11, 12, 13, 14, 15] } := by kernel_rfl
@[go_sem] theorem an_4 : ann 4 = { vs := [4, 5, 8, 9, 10, 11, 13, 14, 15, 16], keep := [(0, [(5, .v), (9, .v), (13, .v), (14, .v)]), (2, [(5, .v), (9, .v), (13, .v), (14, .v), (15, .v), (16, .v)])] } := by kernel_rfl
@[go_sem] theorem an_5 : ann 5 = { vs := [2, 4] } := by kernel_rfl
@[go_sem] theorem an_6 : ann 6 = { vs := [2, 4, 5, 6, 7], keep := [(0, [(1, .v), (2, .v), (6, .o 1 true), (7, .v)])] } := by kernel_rfl
@[go_sem] theorem an_7 : ann 7 = { vs := [1, 2, 3] } := by kernel_rfl
@[go_sem] theorem an_8 : ann 8 = { vs := [2, 4, 5, 6, 7, 8, 13, 14, 15], keep := [(0, [(1, .v), (6, .o 1 true), (13, .v), (14, .v), (15, .v)])] } := by kernel_rfl
@[go_sem] theorem an_9 : ann 9 = { vs := [4, 5], keep := [(0, [(0, .v), (1, .v), (5, .v)])] } := by kernel_rfl
@[go_sem] theorem an_10 : ann 10 = { vs := [2, 3, 4] } := by kernel_rfl
@[go_sem] theorem an_11 : ann 11 = { vs := [2, 4], modes := [.l] } := by kernel_rfl
@[go_sem] theorem an_12 : ann 12 = { vs := [4, 5], keep := [(0, [(0, .v), (1, .v), (5, .v)])], modes := [.l] } := by kernel_rfl
@[go_sem] theorem an_13 : ann 13 = { vs := [4, 5], keep := [(0, [(0, .v), (1, .v), (5, .v)])] } := by kernel_rfl
@[go_sem] theorem an_14 : ann 14 = { vs := [4, 5, 6, 7, 8, 9, 10, 11, 12], keep := [(0, [(1, .v), (4, .v), (7, .v), (9, .o 1 true), (10, .v)]), (3000000, [(7, .o 0 false)])] } := by kernel_rfl
@[go_sem] theorem an_15 : ann 15 = { vs := [4] } := by kernel_rfl
@[go_sem] theorem an_16 : ann 16 = { vs := [4] } := by kernel_rfl
@[go_sem] theorem an_17 : ann 17 = { vs := [6] } := by kernel_rfl
@[go_sem] theorem an_18 : ann 18 = { vs := [2, 3, 4, 5, 6, 7] } := by kernel_rfl
@[go_sem] theorem an_19 : ann 19 = { vs := [2, 3, 4, 5, 6, 7] } := by kernel_rfl
@[go_sem] theorem an_20 : ann 20 = { vs := [4, 5], keep := [(0, [(0, .v), (1, .v), (5, .v)])] } := by kernel_rfl
@[go_sem] theorem an_21 : ann 21 = { vs := [4, 5], keep := [(0, [(0, .v), (1, .v), (5, .v)])] } := by kernel_rfl
@[go_sem] theorem an_22 : ann 22 = { vs := [4, 5], keep := [(0, [(0, .v), (1, .v), (5, .v)])] } := by kernel_rfl
@[go_sem] theorem an_23 : ann 23 = { vs := [4, 5], keep := [(0, [(0, .v), (1, .v), (5, .v)])] } := by kernel_rfl
@[go_sem] theorem an_24 : ann 24 = { vs := [1, 2, 3, 4, 5, 6, 7, 8, 9], keep := [(0, [(1, .v), (3, .v), (4, .v)]), (2, [(1, .v), (3, .v), (6, .v)]), (4, [(1, .v), (3, .v), (8, .v)])] } := by kernel_rfl
@[go_sem] theorem an_25 : ann 25 = { vs := [2, 3, 4], keep := [(0, [(0, .v), (3, .v), (4, .v)])] } := by kernel_rfl
@[go_sem] theorem an_26 : ann 26 = { vs := [2, 3, 4], keep := [(0, [(0, .v), (3, .v), (4, .v)])] } := by kernel_rfl
@[go_sem] theorem an_27 : ann 27 = { vs := [2, 3, 4], keep := [(0, [(0, .v), (3, .v), (4, .v)])] } := by kernel_rfl
@[go_sem] theorem an_28 : ann 28 = { vs := [1, 2, 3, 4, 29, 30, 31], keep := [(0, [(1, .v), (29, .v), (30, .v), (31, .v)])] } := by kernel_rfl
@[go_sem] theorem an_29 : ann 29 = { vs := [4, 5], keep := [(0, [(0, .v), (1, .v), (5, .v)])] } := by kernel_rfl
@[go_sem] theorem an_30 : ann 30 = { vs := [4, 5], keep := [(0, [(0, .v), (1, .v), (5, .v)])] } := by kernel_rfl
@[go_sem] theorem an_31 : ann 31 = { vs := [4, 5], keep := [(0, [(0, .v), (1, .v), (5, .v)])] } := by kernel_rfl
@[go_sem] theorem an_32 : ann 32 = { vs := [4, 5], keep := [(0, [(0, .v), (1, .v), (5, .v)])], modes := [.l] } := by kernel_rfl
@[go_sem] theorem an_33 : ann 33 = { vs := [4, 5], keep := [(0, [(0, .v), (1, .v), (5, .v)])], modes := [.l] } := by kernel_rfl
@[go_sem] theorem an_34 : ann 34 = { vs := [4, 5], keep := [(0, [(0, .v), (1, .v), (5, .v)])], modes := [.l] } := by kernel_rfl
@[go_sem] theorem an_35 : ann 35 = { vs := [2, 3] } := by kernel_rfl
@[go_sem] theorem an_36 : ann 36 = { vs := [2, 3, 4, 5, 6, 7, 8, 9, 11] } := by kernel_rfl
@[go_sem] theorem an_37 : ann 37 = { vs := [1, 2], keep := [(1000001, [])] } := by kernel_rfl
@[go_sem] theorem an_38 : ann 38 = { vs := [2] } := by kernel_rfl
@[go_sem] theorem an_39 : ann 39 = { vs := [4, 5, 6, 7, 30], keep := [(0, [(0, .v), (1, .v), (5, .o 5 false), (6, .v)])], modes := [.l] } := by kernel_rfl
@[go_sem] theorem an_40 : ann 40 = { vs := [4, 5, 6], keep := [(0, [(0, .v), (5, .o 1 true), (6, .v)])], modes := [.l] } := by kernel_rfl
@[go_sem] theorem an_41 : ann 41 = { vs := [1, 2] } := by kernel_rfl
@[go_sem] theorem an_42 : ann 42 = { vs := [1, 2] } := by kernel_rfl
@[go_sem] theorem an_43 : ann 43 = { vs := [3, 4, 5, 7], deep := some (deepG Go.Proofs.Try.prog ann1 (fun _ => none) 43) } := by kernel_rfl
@[go_sem] theorem an_44 : ann 44 = { vs := [1, 2, 3, 4, 5], keep := [(0, [(1, .v), (3, .v)]), (2, [(1, .v), (4, .v)]), (4, [(1, .v), (5, .v)])] } := by kernel_rfl
@[go_sem] theorem an_45 : ann 45 = { vs := [2, 4] } := by kernel_rfl
@[go_sem] theorem an_46 : ann 46 = { vs := [2, 4] } := by kernel_rfl
@[go_sem] theorem an_47 : ann 47 = { vs := [2, 4] } := by kernel_rfl
@[go_sem] theorem an_48 : ann 48 = { vs := [6] } := by kernel_rfl
@[go_sem] theorem an_49 : ann 49 = { vs := [1, 2] } := by kernel_rfl
@[go_sem] theorem an_50 : ann 50 = { vs := [4, 5], keep := [(0, [(0, .v), (1, .v), (5, .v)])] } := by kernel_rfl
@[go_sem] theorem an_51 : ann 51 = { vs := [1, 2, 3] } := by kernel_rfl
@[go_sem] theorem an_52 : ann 52 = { vs := [1, 2, 3] } := by kernel_rfl
@[go_sem] theorem an_53 : ann 53 = { vs := [1, 2, 3] } := by kernel_rfl
@[go_sem] theorem an_54 : ann 54 = { vs := [2] } := by kernel_rfl
@[go_sem] theorem an_55 : ann 55 = { vs := [6] } := by kernel_rfl
@[go_sem] theorem an_56 : ann 56 = { vs := [3, 5, 6] } := by kernel_rfl
@[go_sem] theorem an_57 : ann 57 = { vs := [3, 4] } := by kernel_rfl
@[go_sem] theorem an_58 : ann 58 = { vs := [2, 3] } := by kernel_rfl
@[go_sem] theorem an_59 : ann 59 = { vs := [1, 2] } := by kernel_rfl
@[go_sem] theorem an_60 : ann 60 = { vs := [2, 4] } := by kernel_rfl
@[go_sem] theorem an_61 : ann 61 = { vs := [3, 4] } := by kernel_rfl
@[go_sem] theorem an_62 : ann 62 = { vs := [2, 3] } := by kernel_rfl
@[go_sem] theorem an_63 : ann 63 = { vs := [3, 6] } := by kernel_rfl
@[go_sem] theorem an_64 : ann 64 = { vs := [2, 3, 4] } := by kernel_rfl
@[go_sem] theorem an_65 : ann 65 = { vs := [2, 3, 4] } := by kernel_rfl
@[go_sem] theorem an_66 : ann 66 = { vs := [2, 3, 4] } := by kernel_rfl
@[go_sem] theorem an_67 : ann 67 = { vs := [1, 2, 3, 4], keep := [(0, [(1, .v), (2, .v), (3, .v), (4, .v)])] } := by kernel_rfl
@[go_sem] theorem an_68 : ann 68 = { vs := [3, 6, 7, 8, 9, 10, 11, 12], keep := [(0, [(1, .v), (2, .v), (3, .v), (6, .v), (7, .v), (8, .v), (9, .v)])] } := by kernel_rfl
@[go_sem] theorem an_69 : ann 69 = { vs := [4, 5, 6, 7], modes := [.l] } := by kernel_rfl
@[go_sem] theorem an_70 : ann 70 = { vs := [4] } := by kernel_rfl
@[go_sem] theorem an_71 : ann 71 = { vs := [2], modes := [.l] } := by kernel_rfl
@[go_sem] theorem an_72 : ann 72 = { vs := [4], modes := [.l] } := by kernel_rfl
@[go_sem] theorem an_73 : ann 73 = { vs := [3, 4] } := by kernel_rfl
@[go_sem] theorem an_74 : ann 74 = { vs := [2] } := by kernel_rfl
@[go_sem] theorem an_75 : ann 75 = { vs := [2] } := by kernel_rfl
@[go_sem] theorem an_76 : ann 76 = { vs := [3, 4] } := by kernel_rfl
@[go_sem] theorem an_77 : ann 77 = { vs := [2, 3] } := by kernel_rfl
@[go_sem] theorem an_78 : ann 78 = { vs := [2, 4] } := by kernel_rfl
@[go_sem] theorem an_79 : ann 79 = { vs := [2] } := by kernel_rfl
@[go_sem] theorem an_80 : ann 80 = { vs := [2] } := by kernel_rfl
@[go_sem] theorem an_81 : ann 81 = { vs := [2, 3, 4] } := by kernel_rfl
@[go_sem] theorem an_82 : ann 82 = { vs := [3, 7, 8, 9], keep := [(0, [(0, .v), (7, .v), (8, .v), (9, .v)])] } := by kernel_rfl
@[go_sem] theorem an_83 : ann 83 = { vs := [6, 7, 8, 9, 10, 14, 15, 16], keep := [(0, [(0, .v), (1, .v), (2, .v), (6, .v), (14, .v), (15, .v), (16, .v)])], deep := some (deepG Go.Proofs.Try.prog ann0 (fun _ => none) 83) } := by kernel_rfl
@[go_sem] theorem an_84 : ann 84 = { vs := [4] } := by kernel_rfl
@[go_sem] theorem an_85 : ann 85 = { vs := [1, 2, 3] } := by kernel_rfl
@[go_sem] theorem an_86 : ann 86 = { vs := [2, 3, 4], keep := [(0, [(0, .v), (3, .v), (4, .v)])] } := by kernel_rfl
@[go_sem] theorem an_87 : ann 87 = { vs := [4] } := by kernel_rfl
@[go_sem] theorem an_88 : ann 88 = { vs := [2, 3] } := by kernel_rfl
@[go_sem] theorem an_89 : ann 89 = { vs := [3, 4] } := by kernel_rfl
@[go_sem] theorem an_90 : ann 90 = { vs := [2, 4] } := by kernel_rfl
@[go_sem] theorem an_91 : ann 91 = { vs := [4, 5], keep := [(0, [(0, .v), (1, .v), (5, .v)])] } := by kernel_rfl
@[go_sem] theorem an_92 : ann 92 = { vs := [2] } := by kernel_rfl
@[go_sem] theorem an_93 : ann 93 = { vs := [4] } := by kernel_rfl
@[go_sem] theorem an_94 : ann 94 = { vs := [2, 3] } := by kernel_rfl
@[go_sem] theorem an_95 : ann 95 = { vs := [2, 3, 4] } := by kernel_rfl
@[go_sem] theorem an_96 : ann 96 = { vs := [2], modes := [.l] } := by kernel_rfl
@[go_sem] theorem an_97 : ann 97 = { vs := [4], modes := [.l] } := by kernel_rfl
@[go_sem] theorem an_98 : ann 98 = { vs := [4] } := by kernel_rfl
@[go_sem] theorem an_99 : ann 99 = { vs := [3] } := by kernel_rfl
@[go_sem] theorem an_100 : ann 100 = { vs := [4] } := by kernel_rfl
@[go_sem] theorem an_101 : ann 101 = { vs := [2, 3] } := by kernel_rfl
@[go_sem] theorem an_102 : ann 102 = { vs := [4, 5, 7, 8], keep := [(0, [(0, .v), (1, .v), (7, .v), (8, .v)])] } := by kernel_rfl
@[go_sem] theorem an_103 : ann 103 = { vs := [4] } := by kernel_rfl
@[go_sem] theorem an_104 : ann 104 = { vs := [3] } := by kernel_rfl
@[go_sem] theorem an_105 : ann 105 = { vs := [4, 5, 7, 8], keep := [(0, [(0, .v), (1, .v), (7, .v), (8, .v)])] } := by kernel_rfl
@[go_sem] theorem an_106 : ann 106 = { vs := [4, 5, 7, 8], keep := [(0, [(0, .v), (1, .v), (7, .v), (8, .v)])] } := by kernel_rfl
@[go_sem] theorem an_107 : ann 107 = { vs := [4, 5, 7, 8], keep := [(0, [(0, .v), (1, .v), (7, .v), (8, .v)])] } := by kernel_rfl
@[go_sem] theorem an_108 : ann 108 = { vs := [4, 5, 7, 8], keep := [(0, [(0, .v), (1, .v), (7, .v), (8, .v)])] } := by kernel_rfl
@[go_sem] theorem an_109 : ann 109 = {} := by kernel_rfl
@[go_sem] theorem an_110 : ann 110 = {} := by kernel_rfl
@[go_sem] theorem an_111 : ann 111 = {} := by kernel_rfl
@[go_sem] theorem an_112 : ann 112 = {} := by kernel_rfl
@[go_sem] theorem an_113 : ann 113 = {} := by kernel_rfl
@[go_sem] theorem an_114 : ann 114 = {} := by kernel_rfl
@[go_sem] theorem an_115 : ann 115 = {} := by kernel_rfl
@[go_sem] theorem an_116 : ann 116 = {} := by kernel_rfl
@[go_sem] theorem an_117 : ann 117 = {} := by kernel_rfl
@[go_sem] theorem an_118 : ann 118 = {} := by kernel_rfl
@[go_sem] theorem an_119 : ann 119 = {} := by kernel_rfl
@[go_sem] theorem an_120 : ann 120 = {} := by kernel_rfl
@[go_sem] theorem an_121 : ann 121 = {} := by kernel_rfl
@[go_sem] theorem an_122 : ann 122 = {} := by kernel_rfl
@[go_sem] theorem an_123 : ann 123 = {} := by kernel_rfl
@[go_sem] theorem an_124 : ann 124 = {} := by kernel_rfl
@[go_sem] theorem an_125 : ann 125 = {} := by kernel_rfl
@[go_sem] theorem re2 : Go.Proofs.Try.f2.results.toList = [] := rfl
@[go_sem] theorem re3 : Go.Proofs.Try.f3.results.toList = [.tmp 4] := rfl
@[go_sem] theorem re4 : Go.Proofs.Try.f4.results.toList = [.tmp 4] := rfl
@[go_sem] theorem re5 : Go.Proofs.Try.f5.results.toList = [.tmp 4] := rfl
@[go_sem] theorem re6 : Go.Proofs.Try.f6.results.toList = [.tmp 4, .tmp 5] := rfl
@[go_sem] theorem re7 : Go.Proofs.Try.f7.results.toList = [.cell 2 35] := rfl
@[go_sem] theorem re8 : Go.Proofs.Try.f8.results.toList = [.tmp 4, .tmp 5] := rfl
@[go_sem] theorem re9 : Go.Proofs.Try.f9.results.toList = [.tmp 4] := rfl
@[go_sem] theorem re10 : Go.Proofs.Try.f10.results.toList = [.tmp 4] := rfl
@[go_sem] theorem re11 : Go.Proofs.Try.f11.results.toList = [.tmp 4] := rfl
@[go_sem] theorem re12 : Go.Proofs.Try.f12.results.toList = [.tmp 4] := rfl
@[go_sem] theorem re13 : Go.Proofs.Try.f13.results.toList = [.tmp 4] := rfl
@[go_sem] theorem re14 : Go.Proofs.Try.f14.results.toList = [.cell 4 46, .tmp 5, .tmp 6] := rfl
@[go_sem] theorem re15 : Go.Proofs.Try.f15.results.toList = [.tmp 4] := rfl
@[go_sem] theorem re16 : Go.Proofs.Try.f16.results.toList = [.tmp 4] := rfl
@[go_sem] theorem re17 : Go.Proofs.Try.f17.results.toList = [.tmp 6] := rfl
@[go_sem] theorem re18 : Go.Proofs.Try.f18.results.toList = [.cell 4 46, .tmp 5] := rfl
@[go_sem] theorem re19 : Go.Proofs.Try.f19.results.toList = [.cell 4 46, .tmp 5] := rfl
@[go_sem] theorem re20 : Go.Proofs.Try.f20.results.toList = [.tmp 4] := rfl
@[go_sem] theorem re21 : Go.Proofs.Try.f21.results.toList = [.tmp 4] := rfl
@[go_sem] theorem re22 : Go.Proofs.Try.f22.results.toList = [.tmp 4] := rfl
@[go_sem] theorem re23 : Go.Proofs.Try.f23.results.toList = [.tmp 4] := rfl
@[go_sem] theorem re24 : Go.Proofs.Try.f24.results.toList = [.tmp 2] := rfl
@[go_sem] theorem re25 : Go.Proofs.Try.f25.results.toList = [.tmp 2] := rfl
@[go_sem] theorem re26 : Go.Proofs.Try.f26.results.toList = [.tmp 2] := rfl
@[go_sem] theorem re27 : Go.Proofs.Try.f27.results.toList = [.tmp 2] := rfl
@[go_sem] theorem re28 : Go.Proofs.Try.f28.results.toList = [.tmp 2] := rfl
@[go_sem] theorem re29 : Go.Proofs.Try.f29.results.toList = [.tmp 4] := rfl
@[go_sem] theorem re30 : Go.Proofs.Try.f30.results.toList = [.tmp 4] := rfl
@[go_sem] theorem re31 : Go.Proofs.Try.f31.results.toList = [.tmp 4] := rfl
@[go_sem] theorem re32 : Go.Proofs.Try.f32.results.toList = [.tmp 4] := rfl
@[go_sem] theorem re33 : Go.Proofs.Try.f33.results.toList = [.tmp 4] := rfl
@[go_sem] theorem re34 : Go.Proofs.Try.f34.results.toList = [.tmp 4] := rfl
@[go_sem] theorem re35 : Go.Proofs.Try.f35.results.toList = [.cell 2 46, .tmp 3] := rfl
@[go_sem] theorem re36 : Go.Proofs.Try.f36.results.toList = [.cell 4 46, .tmp 5] := rfl
@[go_sem] theorem re37 : Go.Proofs.Try.f37.results.toList = [.cell 2 46] := rfl
@[go_sem] theorem re38 : Go.Proofs.Try.f38.results.toList = [.tmp 2] := rfl
@[go_sem] theorem re39 : Go.Proofs.Try.f39.results.toList = [.tmp 4] := rfl
@[go_sem] theorem re40 : Go.Proofs.Try.f40.results.toList = [.tmp 4] := rfl
@[go_sem] theorem re41 : Go.Proofs.Try.f41.results.toList = [.tmp 2] := rfl
@[go_sem] theorem re42 : Go.Proofs.Try.f42.results.toList = [.cell 2 46] := rfl
@[go_sem] theorem re43 : Go.Proofs.Try.f43.results.toList = [.tmp 4] := rfl
@[go_sem] theorem re44 : Go.Proofs.Try.f44.results.toList = [.tmp 2] := rfl
@[go_sem] theorem re45 : Go.Proofs.Try.f45.results.toList = [.tmp 4] := rfl
@[go_sem] theorem re46 : Go.Proofs.Try.f46.results.toList = [.tmp 4] := rfl
@[go_sem] theorem re47 : Go.Proofs.Try.f47.results.toList = [.tmp 4] := rfl
@[go_sem] theorem re48 : Go.Proofs.Try.f48.results.toList = [.tmp 6] := rfl
@[go_sem] theorem re49 : Go.Proofs.Try.f49.results.toList = [.tmp 2] := rfl
@[go_sem] theorem re50 : Go.Proofs.Try.f50.results.toList = [.tmp 4] := rfl
@[go_sem] theorem re51 : Go.Proofs.Try.f51.results.toList = [.cell 2 69] := rfl
@[go_sem] theorem re52 : Go.Proofs.Try.f52.results.toList = [.cell 2 102] := rfl
@[go_sem] theorem re53 : Go.Proofs.Try.f53.results.toList = [.cell 2 104] := rfl
@[go_sem] theorem re54 : Go.Proofs.Try.f54.results.toList = [.tmp 2] := rfl
@[go_sem] theorem re55 : Go.Proofs.Try.f55.results.toList = [.tmp 6] := rfl
@[go_sem] theorem re56 : Go.Proofs.Try.f56.results.toList = [.tmp 6] := rfl
@[go_sem] theorem re57 : Go.Proofs.Try.f57.results.toList = [.tmp 4] := rfl
@[go_sem] theorem re58 : Go.Proofs.Try.f58.results.toList = [.tmp 3] := rfl
@[go_sem] theorem re59 : Go.Proofs.Try.f59.results.toList = [.tmp 2] := rfl
@[go_sem] theorem re60 : Go.Proofs.Try.f60.results.toList = [.tmp 4] := rfl
@[go_sem] theorem re61 : Go.Proofs.Try.f61.results.toList = [.tmp 4] := rfl
@[go_sem] theorem re62 : Go.Proofs.Try.f62.results.toList = [.tmp 3] := rfl
@[go_sem] theorem re63 : Go.Proofs.Try.f63.results.toList = [.tmp 6] := rfl
@[go_sem] theorem re64 : Go.Proofs.Try.f64.results.toList = [.tmp 4] := rfl
@[go_sem] theorem re65 : Go.Proofs.Try.f65.results.toList = [.tmp 4] := rfl
@[go_sem] theorem re66 : Go.Proofs.Try.f66.results.toList = [.tmp 4] := rfl
@[go_sem] theorem re67 : Go.Proofs.Try.f67.results.toList = [.cell 2 46] := rfl
@[go_sem] theorem re68 : Go.Proofs.Try.f68.results.toList = [.cell 6 46] := rfl
@[go_sem] theorem re69 : Go.Proofs.Try.f69.results.toList = [.tmp 4] := rfl
@[go_sem] theorem re70 : Go.Proofs.Try.f70.results.toList = [.tmp 4] := rfl
@[go_sem] theorem re71 : Go.Proofs.Try.f71.results.toList = [.tmp 2] := rfl
@[go_sem] theorem re72 : Go.Proofs.Try.f72.results.toList = [.tmp 4] := rfl
@[go_sem] theorem re73 : Go.Proofs.Try.f73.results.toList = [.tmp 4] := rfl
@[go_sem] theorem re74 : Go.Proofs.Try.f74.results.toList = [.tmp 2] := rfl
@[go_sem] theorem re75 : Go.Proofs.Try.f75.results.toList = [.tmp 2] := rfl
@[go_sem] theorem re76 : Go.Proofs.Try.f76.results.toList = [.tmp 4] := rfl
@[go_sem] theorem re77 : Go.Proofs.Try.f77.results.toList = [.tmp 3] := rfl
@[go_sem] theorem re78 : Go.Proofs.Try.f78.results.toList = [.tmp 4] := rfl
@[go_sem] theorem re79 : Go.Proofs.Try.f79.results.toList = [.tmp 2] := rfl
@[go_sem] theorem re80 : Go.Proofs.Try.f80.results.toList = [.tmp 2] := rfl
@[go_sem] theorem re81 : Go.Proofs.Try.f81.results.toList = [.tmp 4] := rfl
@[go_sem] theorem re82 : Go.Proofs.Try.f82.results.toList = [] := rfl
@[go_sem] theorem re83 : Go.Proofs.Try.f83.results.toList = [] := rfl
@[go_sem] theorem re84 : Go.Proofs.Try.f84.results.toList = [.tmp 4] := rfl
@[go_sem] theorem re85 : Go.Proofs.Try.f85.results.toList = [.cell 2 67] := rfl
@[go_sem] theorem re86 : Go.Proofs.Try.f86.results.toList = [.tmp 2] := rfl
@[go_sem] theorem re87 : Go.Proofs.Try.f87.results.toList = [.tmp 4] := rfl
@[go_sem] theorem re88 : Go.Proofs.Try.f88.results.toList = [.tmp 3] := rfl
@[go_sem] theorem re89 : Go.Proofs.Try.f89.results.toList = [.tmp 4] := rfl
@[go_sem] theorem re90 : Go.Proofs.Try.f90.results.toList = [.tmp 4] := rfl
@[go_sem] theorem re91 : Go.Proofs.Try.f91.results.toList = [.tmp 4] := rfl
@[go_sem] theorem re92 : Go.Proofs.Try.f92.results.toList = [.tmp 2] := rfl
@[go_sem] theorem re93 : Go.Proofs.Try.f93.results.toList = [.tmp 4] := rfl
@[go_sem] theorem re94 : Go.Proofs.Try.f94.results.toList = [.tmp 3] := rfl
@[go_sem] theorem re95 : Go.Proofs.Try.f95.results.toList = [.tmp 4] := rfl
@[go_sem] theorem re96 : Go.Proofs.Try.f96.results.toList = [.tmp 2] := rfl
@[go_sem] theorem re97 : Go.Proofs.Try.f97.results.toList = [.tmp 4] := rfl
@[go_sem] theorem re98 : Go.Proofs.Try.f98.results.toList = [.tmp 4] := rfl
@[go_sem] theorem re99 : Go.Proofs.Try.f99.results.toList = [.tmp 3] := rfl
@[go_sem] theorem re100 : Go.Proofs.Try.f100.results.toList = [.tmp 4] := rfl
@[go_sem] theorem re101 : Go.Proofs.Try.f101.results.toList = [.tmp 3] := rfl
@[go_sem] theorem re102 : Go.Proofs.Try.f102.results.toList = [.tmp 4] := rfl
@[go_sem] theorem re103 : Go.Proofs.Try.f103.results.toList = [.tmp 4] := rfl
@[go_sem] theorem re104 : Go.Proofs.Try.f104.results.toList = [.tmp 3] := rfl
@[go_sem] theorem re105 : Go.Proofs.Try.f105.results.toList = [.tmp 4] := rfl
@[go_sem] theorem re106 : Go.Proofs.Try.f106.results.toList = [.tmp 4] := rfl
@[go_sem] theorem re107 : Go.Proofs.Try.f107.results.toList = [.tmp 4] := rfl
@[go_sem] theorem re108 : Go.Proofs.Try.f108.results.toList = [.tmp 4] := rfl
end Go.Proofs.Ytfagpbelmaipkaa.Ev
