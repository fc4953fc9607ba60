/- Annotations of the functions, and facts of types, by gen.py. No condition. -/
import Derived.Test.YtinahpfjlamlnaaEvStep
import Derived.Test.YtinahpfjlamlnaaEvCore
import Derived.Test.YtinahpfjlamlnaaProg
namespace Go.Proofs.Ytinahpfjlamlnaa.Ev
open Go
def annL : List (Nat × Ann) := [
  (3, { vs := [2, 3, 4, 5, 6, 7, 8, 9, 10] }),
  (4, { vs := [1, 2, 3, 4, 5, 6] }),
  (5, { vs := [1, 2, 3, 4, 5, 6, 7, 8] }),
  (6, { vs := [2, 4, 5, 6, 7, 8, 9, 10, 11, 12, 13, 14, 15] }),
  (7, { vs := [4, 5, 6, 7, 8, 9, 10, 11, 13, 14, 15, 16, 17, 18, 19, 21], keep := [(0, [(7, .v), (9, .v), (17, .v), (21, .v)])] }),
  (8, { vs := [4, 5, 8, 9, 10, 11, 13, 14, 15, 16], keep := [(0, [(5, .v), (9, .v), (13, .v), (14, .v)]), (2, [(5, .v), (9, .v), (13, .v), (14, .v), (15, .v), (16, .v)])] }),
  (9, { vs := [2, 3] }),
  (10, { vs := [2, 3] }),
  (11, { vs := [2, 3, 4] }),
  (12, { vs := [2, 4], modes := [.l] }),
  (13, { vs := [2, 4] }),
  (14, { vs := [2, 4] }),
  (15, { vs := [1, 2, 3, 4, 5, 6, 7, 8, 9], keep := [(0, [(1, .v), (3, .v), (4, .v)]), (2, [(1, .v), (3, .v), (6, .v)]), (4, [(1, .v), (3, .v), (8, .v)])] }),
  (16, { vs := [1, 2, 3] }),
  (17, { vs := [1, 2, 3, 4, 29, 30, 31], keep := [(0, [(1, .v), (29, .v), (30, .v), (31, .v)])] }),
  (18, { vs := [1, 2, 3, 4, 5, 6, 7], keep := [(0, [(1, .v), (4, .v)]), (2, [(1, .v), (4, .v), (5, .v), (6, .v)])] }),
  (19, { vs := [1, 2, 3] }),
  (20, { vs := [2, 4, 5, 6, 7], keep := [(0, [(1, .v), (2, .v), (6, .o 1 true), (7, .v)])] }),
  (21, { vs := [2, 4, 5, 6, 7, 8, 13, 14, 15], keep := [(0, [(1, .v), (6, .o 1 true), (13, .v), (14, .v), (15, .v)])] }),
  (22, { vs := [4, 5], keep := [(0, [(0, .v), (1, .v), (5, .v)])] }),
  (23, { vs := [4, 5], keep := [(0, [(0, .v), (1, .v), (5, .v)])], modes := [.l] }),
  (24, { vs := [4, 5], keep := [(0, [(0, .v), (1, .v), (5, .v)])] }),
  (25, { vs := [2] }),
  (26, { vs := [2, 3] }),
  (27, { vs := [2, 3] }),
  (28, { vs := [2, 3] }),
  (29, { vs := [2, 3] }),
  (30, { vs := [4, 5, 6, 7, 8, 25, 26, 27], keep := [(1, [(0, .v), (6, .o 1 true), (25, .v), (26, .v), (27, .v)])] }),
  (31, { vs := [4, 5] }),
  (32, { vs := [4, 5], keep := [(0, [(0, .v), (1, .v), (5, .v)])] }),
  (33, { vs := [4, 5], keep := [(0, [(0, .v), (1, .v), (5, .v)])] }),
  (34, { vs := [4, 5], keep := [(0, [(0, .v), (1, .v), (5, .v)])] }),
  (35, { vs := [4, 5, 6, 7, 8, 9, 10, 11, 12], keep := [(0, [(1, .v), (4, .v), (7, .v), (9, .o 1 true), (10, .v)])] }),
  (36, { vs := [4] }),
  (37, { vs := [4] }),
  (38, { vs := [6] }),
  (39, { vs := [2, 3, 4, 5, 6, 7] }),
  (40, { vs := [2, 3, 4, 5, 6, 7] }),
  (41, { vs := [6] }),
  (42, { vs := [2, 3, 4], keep := [(0, [(0, .v), (2, .v), (3, .v), (4, .v)])] }),
  (43, { vs := [2] }),
  (44, { vs := [4, 5], keep := [(0, [(0, .v), (1, .v), (5, .v)])] }),
  (45, { vs := [4, 5], keep := [(0, [(0, .v), (1, .v), (5, .v)])] }),
  (46, { vs := [4, 5], keep := [(0, [(0, .v), (1, .v), (5, .v)])] }),
  (47, { vs := [4, 5], keep := [(0, [(0, .v), (1, .v), (5, .v)])], modes := [.l] }),
  (48, { vs := [4, 5], keep := [(0, [(0, .v), (1, .v), (5, .v)])], modes := [.l] }),
  (49, { vs := [4, 5], keep := [(0, [(0, .v), (1, .v), (5, .v)])], modes := [.l] }),
  (50, { vs := [4, 5], keep := [(0, [(0, .v), (1, .v), (5, .v)])] }),
  (51, { vs := [4, 5], keep := [(0, [(0, .v), (1, .v), (5, .v)])] }),
  (52, { vs := [4, 5], keep := [(0, [(0, .v), (1, .v), (5, .v)])] }),
  (53, { vs := [4, 5], keep := [(0, [(0, .v), (1, .v), (5, .v)])] }),
  (54, { vs := [4, 5], keep := [(0, [(0, .v), (1, .v), (5, .v)])] }),
  (55, { vs := [4, 5], keep := [(0, [(0, .v), (1, .v), (5, .v)])] }),
  (56, { vs := [1, 2] }),
  (57, { vs := [4, 5], keep := [(0, [(0, .v), (1, .v), (5, .v)])] }),
  (58, { vs := [2, 3, 4], keep := [(0, [(0, .v), (3, .v), (4, .v)])] }),
  (59, { vs := [2, 3, 4], keep := [(0, [(0, .v), (3, .v), (4, .v)])] }),
  (60, { vs := [2, 3, 4], keep := [(0, [(0, .v), (3, .v), (4, .v)])] }),
  (61, { vs := [6] }),
  (62, { vs := [3, 5, 6] }),
  (63, { vs := [3, 4] }),
  (64, { vs := [2, 3] }),
  (65, { vs := [1, 2] }),
  (66, { vs := [2, 4] }),
  (67, { vs := [3, 4] }),
  (68, { vs := [2, 3] }),
  (69, { vs := [3, 6] }),
  (70, { vs := [2, 3] }),
  (71, { vs := [3, 4] }),
  (72, { vs := [2, 3] }),
  (73, { vs := [2] }),
  (74, { vs := [2], modes := [.l] }),
  (75, { vs := [2] }),
  (76, { vs := [2, 3, 4], keep := [(0, [(0, .v), (3, .o 1 true)]), (1000004, [])] }),
  (77, { vs := [2, 3, 4], keep := [(0, [(0, .v), (3, .o 1 true), (4, .v)])] }),
  (78, { vs := [2] }),
  (79, { vs := [2, 3, 4, 5, 6, 7], keep := [(0, [(0, .v), (5, .v), (6, .v), (7, .v)])] }),
  (80, { vs := [4, 5, 7, 8, 10, 12, 39, 40, 41, 63, 64, 65], keep := [(1, [(0, .v), (1, .v), (5, .v), (39, .v), (40, .v), (41, .v)]), (3, [(1, .v), (8, .v), (63, .v), (64, .v), (65, .v)])] }),
  (81, { vs := [2] }),
  (82, { vs := [2, 3], keep := [(0, [(0, .v), (3, .v)])] }),
  (83, { vs := [4, 5, 6], keep := [(0, [(0, .v), (1, .v), (5, .o 1 true), (6, .v)])] }),
  (84, { vs := [2, 3] }),
  (85, { vs := [2, 3, 4, 5, 6, 7, 8, 9, 11] }),
  (86, { vs := [1, 2], keep := [(1000001, [])] }),
  (87, { vs := [4, 5, 6, 7, 30], keep := [(0, [(0, .v), (1, .v), (5, .o 5 false), (6, .v)])], modes := [.l] }),
  (88, { vs := [4, 5, 6], keep := [(0, [(0, .v), (5, .o 1 true), (6, .v)])], modes := [.l] }),
  (89, { vs := [1, 2] }),
  (90, { vs := [1, 2] }),
  (91, { vs := [3, 4, 5, 7], keep := [(1000013, [])] }),
  (92, { vs := [1, 2, 3, 4, 5], keep := [(0, [(1, .v), (3, .v)]), (2, [(1, .v), (4, .v)]), (4, [(1, .v), (5, .v)])] }),
  (93, { vs := [2, 3, 4] }),
  (94, { vs := [2, 3, 4] }),
  (95, { vs := [2, 3, 4] }),
  (96, { vs := [2, 4] }),
  (97, { vs := [2, 4] }),
  (98, { vs := [2, 4] }),
  (99, { vs := [1, 2, 3] }),
  (100, { vs := [1, 2, 3] }),
  (101, { vs := [1, 2, 3] }),
  (102, { vs := [4] }),
  (103, { vs := [2, 3] }),
  (104, { vs := [3, 4] }),
  (105, { vs := [2, 4] }),
  (106, { vs := [4, 5], keep := [(0, [(0, .v), (1, .v), (5, .v)])] }),
  (107, { vs := [2] }),
  (108, { vs := [4] }),
  (109, { vs := [2, 3] }),
  (110, { vs := [4] }),
  (111, { vs := [2, 3] }),
  (112, { vs := [4, 5, 6], keep := [(0, [(0, .v), (5, .o 1 true), (6, .v)])], modes := [.l] }),
  (113, { vs := [4, 5, 6, 7], modes := [.l] }),
  (114, { vs := [4] }),
  (115, { vs := [2] }),
  (117, { vs := [4, 5] }),
  (118, { vs := [2] }),
  (119, { vs := [1, 2, 3, 4], keep := [(0, [(1, .v), (2, .v), (3, .v), (4, .v)])] }),
  (120, { vs := [3, 6, 7, 8, 9, 10, 11, 12], keep := [(0, [(1, .v), (2, .v), (3, .v), (6, .v), (7, .v), (8, .v), (9, .v)])] }),
  (121, { vs := [4] }),
  (122, { vs := [2], modes := [.l] }),
  (123, { vs := [4], modes := [.l] }),
  (124, { vs := [3, 4] }),
  (125, { vs := [2] }),
  (126, { vs := [2] }),
  (127, { vs := [3, 4] }),
  (128, { vs := [2, 3] }),
  (129, { vs := [2, 4] }),
  (130, { vs := [2] }),
  (131, { vs := [2] }),
  (132, { vs := [2, 3, 4] }),
  (133, { vs := [3, 7, 8, 9], keep := [(0, [(0, .v), (7, .v), (8, .v), (9, .v)])] }),
  (134, { vs := [6, 7, 8, 9, 10, 14, 15, 16], keep := [(0, [(0, .v), (1, .v), (2, .v), (6, .v), (14, .v), (15, .v), (16, .v)])] }),
  (135, { vs := [2, 3, 4] }),
  (136, { vs := [4] }),
  (137, { vs := [1, 2, 3] }),
  (138, { vs := [2, 3, 4], keep := [(0, [(0, .v), (3, .v), (4, .v)])] }),
  (139, { vs := [4, 5, 7, 8], keep := [(0, [(0, .v), (1, .v), (7, .v), (8, .v)])] }),
  (140, { vs := [4] }),
  (141, { vs := [3] }),
  (142, { vs := [4, 5, 7, 8], keep := [(0, [(0, .v), (1, .v), (7, .v), (8, .v)])] }),
  (143, { vs := [4, 5, 7, 8], keep := [(0, [(0, .v), (1, .v), (7, .v), (8, .v)])] }),
  (144, { vs := [2], modes := [.l] }),
  (145, { vs := [4, 5, 7, 8], keep := [(0, [(0, .v), (1, .v), (7, .v), (8, .v)])] }),
  (147, { vs := [4] }),
  (148, { vs := [4], modes := [.l] }),
  (149, { vs := [4] }),
  (150, { vs := [3] }),
  (151, { vs := [4] }),
  (152, { vs := [2, 3] }),
  (153, { vs := [4, 5, 7, 8], keep := [(0, [(0, .v), (1, .v), (7, .v), (8, .v)])] }),
  (156, { vs := [4, 5, 7, 8], keep := [(0, [(0, .v), (1, .v), (7, .v), (8, .v)])] }),
  (157, { vs := [4, 5, 7, 8], keep := [(0, [(0, .v), (1, .v), (7, .v), (8, .v)])] })]
def annOf : List (Nat × Ann) → Nat → Ann
  | [], _ => {}
  | (k, a) :: l, f => if k = f then a else annOf l f
def ann (f : FuncId) : Ann := annOf annL f
@[go_sem] theorem ty3 : tyOf Go.Proofs.Try.prog 3 = .int .i64 := by kernel_rfl
@[go_sem] theorem sz3 : szOf Go.Proofs.Try.prog 3 = 1 := by kernel_rfl
@[go_sem] theorem by3 : byOf Go.Proofs.Try.prog 3 = 8 := by kernel_rfl
@[go_sem] theorem kn3 : known Go.Proofs.Try.prog 3 = true := by kernel_rfl
@[go_sem] theorem zk3 : zeroOk Go.Proofs.Try.prog 3 = true := by kernel_rfl
@[go_sem] theorem ze3 : zeOf Go.Proofs.Try.prog 3 = .int .i64 0 := by kernel_rfl
@[go_sem] theorem ty4 : tyOf Go.Proofs.Try.prog 4 = .bool := by kernel_rfl
@[go_sem] theorem sz4 : szOf Go.Proofs.Try.prog 4 = 1 := by kernel_rfl
@[go_sem] theorem by4 : byOf Go.Proofs.Try.prog 4 = 1 := by kernel_rfl
@[go_sem] theorem kn4 : known Go.Proofs.Try.prog 4 = true := by kernel_rfl
@[go_sem] theorem zk4 : zeroOk Go.Proofs.Try.prog 4 = true := by kernel_rfl
@[go_sem] theorem ze4 : zeOf Go.Proofs.Try.prog 4 = .bool false := by kernel_rfl
@[go_sem] theorem ty5 : tyOf Go.Proofs.Try.prog 5 = .int .u8 := by kernel_rfl
@[go_sem] theorem sz5 : szOf Go.Proofs.Try.prog 5 = 1 := by kernel_rfl
@[go_sem] theorem by5 : byOf Go.Proofs.Try.prog 5 = 1 := by kernel_rfl
@[go_sem] theorem kn5 : known Go.Proofs.Try.prog 5 = true := by kernel_rfl
@[go_sem] theorem zk5 : zeroOk Go.Proofs.Try.prog 5 = true := by kernel_rfl
@[go_sem] theorem ze5 : zeOf Go.Proofs.Try.prog 5 = .int .u8 0 := by kernel_rfl
@[go_sem] theorem ty9 : tyOf Go.Proofs.Try.prog 9 = .str := by kernel_rfl
@[go_sem] theorem sz9 : szOf Go.Proofs.Try.prog 9 = 1 := by kernel_rfl
@[go_sem] theorem by9 : byOf Go.Proofs.Try.prog 9 = 16 := by kernel_rfl
@[go_sem] theorem kn9 : known Go.Proofs.Try.prog 9 = true := by kernel_rfl
@[go_sem] theorem zk9 : zeroOk Go.Proofs.Try.prog 9 = true := by kernel_rfl
@[go_sem] theorem ze9 : zeOf Go.Proofs.Try.prog 9 = .str [] := by kernel_rfl
@[go_sem] theorem ty22 : tyOf Go.Proofs.Try.prog 22 = .slice 92 := by kernel_rfl
@[go_sem] theorem sz22 : szOf Go.Proofs.Try.prog 22 = 1 := by kernel_rfl
@[go_sem] theorem by22 : byOf Go.Proofs.Try.prog 22 = 24 := by kernel_rfl
@[go_sem] theorem kn22 : known Go.Proofs.Try.prog 22 = true := by kernel_rfl
@[go_sem] theorem zk22 : zeroOk Go.Proofs.Try.prog 22 = true := by kernel_rfl
@[go_sem] theorem ze22 : zeOf Go.Proofs.Try.prog 22 = .nils := by kernel_rfl
@[go_sem] theorem ty23 : tyOf Go.Proofs.Try.prog 23 = .slice 95 := by kernel_rfl
@[go_sem] theorem sz23 : szOf Go.Proofs.Try.prog 23 = 1 := by kernel_rfl
@[go_sem] theorem by23 : byOf Go.Proofs.Try.prog 23 = 24 := by kernel_rfl
@[go_sem] theorem kn23 : known Go.Proofs.Try.prog 23 = true := by kernel_rfl
@[go_sem] theorem zk23 : zeroOk Go.Proofs.Try.prog 23 = true := by kernel_rfl
@[go_sem] theorem ze23 : zeOf Go.Proofs.Try.prog 23 = .nils := by kernel_rfl
@[go_sem] theorem ty24 : tyOf Go.Proofs.Try.prog 24 = .slice 97 := by kernel_rfl
@[go_sem] theorem sz24 : szOf Go.Proofs.Try.prog 24 = 1 := by kernel_rfl
@[go_sem] theorem by24 : byOf Go.Proofs.Try.prog 24 = 24 := by kernel_rfl
@[go_sem] theorem kn24 : known Go.Proofs.Try.prog 24 = true := by kernel_rfl
@[go_sem] theorem zk24 : zeroOk Go.Proofs.Try.prog 24 = true := by kernel_rfl
@[go_sem] theorem ze24 : zeOf Go.Proofs.Try.prog 24 = .nils := by kernel_rfl
@[go_sem] theorem ty26 : tyOf Go.Proofs.Try.prog 26 = .strct [(0, 22), (1, 3), (2, 23), (3, 24)] := by kernel_rfl
@[go_sem] theorem sz26 : szOf Go.Proofs.Try.prog 26 = 4 := by kernel_rfl
@[go_sem] theorem by26 : byOf Go.Proofs.Try.prog 26 = 80 := by kernel_rfl
@[go_sem] theorem kn26 : known Go.Proofs.Try.prog 26 = true := by kernel_rfl
@[go_sem] theorem zk26 : zeroOk Go.Proofs.Try.prog 26 = true := by kernel_rfl
@[go_sem] theorem ze26 : zeOf Go.Proofs.Try.prog 26 = .agg [.nils, .int .i64 0, .nils, .nils] := by kernel_rfl
@[go_sem] theorem fl26_0 : fldOf Go.Proofs.Try.prog 26 0 = some (0, 1, false) := by kernel_rfl
@[go_sem] theorem fl26_1 : fldOf Go.Proofs.Try.prog 26 1 = some (1, 1, false) := by kernel_rfl
@[go_sem] theorem fl26_2 : fldOf Go.Proofs.Try.prog 26 2 = some (2, 1, false) := by kernel_rfl
@[go_sem] theorem fl26_3 : fldOf Go.Proofs.Try.prog 26 3 = some (3, 1, false) := by kernel_rfl
@[go_sem] theorem ft26 : flatTy Go.Proofs.Try.prog 26 = false := by kernel_rfl
@[go_sem] theorem ty31 : tyOf Go.Proofs.Try.prog 31 = .func := by kernel_rfl
@[go_sem] theorem sz31 : szOf Go.Proofs.Try.prog 31 = 1 := by kernel_rfl
@[go_sem] theorem by31 : byOf Go.Proofs.Try.prog 31 = 8 := by kernel_rfl
@[go_sem] theorem kn31 : known Go.Proofs.Try.prog 31 = true := by kernel_rfl
@[go_sem] theorem zk31 : zeroOk Go.Proofs.Try.prog 31 = true := by kernel_rfl
@[go_sem] theorem ze31 : zeOf Go.Proofs.Try.prog 31 = .nilf := by kernel_rfl
@[go_sem] theorem ty32 : tyOf Go.Proofs.Try.prog 32 = .slice 133 := by kernel_rfl
@[go_sem] theorem sz32 : szOf Go.Proofs.Try.prog 32 = 1 := by kernel_rfl
@[go_sem] theorem by32 : byOf Go.Proofs.Try.prog 32 = 24 := by kernel_rfl
@[go_sem] theorem kn32 : known Go.Proofs.Try.prog 32 = true := by kernel_rfl
@[go_sem] theorem zk32 : zeroOk Go.Proofs.Try.prog 32 = true := by kernel_rfl
@[go_sem] theorem ze32 : zeOf Go.Proofs.Try.prog 32 = .nils := by kernel_rfl
@[go_sem] theorem ty33 : tyOf Go.Proofs.Try.prog 33 = .slice 136 := by kernel_rfl
@[go_sem] theorem sz33 : szOf Go.Proofs.Try.prog 33 = 1 := by kernel_rfl
@[go_sem] theorem by33 : byOf Go.Proofs.Try.prog 33 = 24 := by kernel_rfl
@[go_sem] theorem kn33 : known Go.Proofs.Try.prog 33 = true := by kernel_rfl
@[go_sem] theorem zk33 : zeroOk Go.Proofs.Try.prog 33 = true := by kernel_rfl
@[go_sem] theorem ze33 : zeOf Go.Proofs.Try.prog 33 = .nils := by kernel_rfl
@[go_sem] theorem ty34 : tyOf Go.Proofs.Try.prog 34 = .slice 139 := by kernel_rfl
@[go_sem] theorem sz34 : szOf Go.Proofs.Try.prog 34 = 1 := by kernel_rfl
@[go_sem] theorem by34 : byOf Go.Proofs.Try.prog 34 = 24 := by kernel_rfl
@[go_sem] theorem kn34 : known Go.Proofs.Try.prog 34 = true := by kernel_rfl
@[go_sem] theorem zk34 : zeroOk Go.Proofs.Try.prog 34 = true := by kernel_rfl
@[go_sem] theorem ze34 : zeOf Go.Proofs.Try.prog 34 = .nils := by kernel_rfl
@[go_sem] theorem ty36 : tyOf Go.Proofs.Try.prog 36 = .strct [(0, 32), (1, 3), (2, 33), (3, 34)] := by kernel_rfl
@[go_sem] theorem sz36 : szOf Go.Proofs.Try.prog 36 = 4 := by kernel_rfl
@[go_sem] theorem by36 : byOf Go.Proofs.Try.prog 36 = 80 := by kernel_rfl
@[go_sem] theorem kn36 : known Go.Proofs.Try.prog 36 = true := by kernel_rfl
@[go_sem] theorem zk36 : zeroOk Go.Proofs.Try.prog 36 = true := by kernel_rfl
@[go_sem] theorem ze36 : zeOf Go.Proofs.Try.prog 36 = .agg [.nils, .int .i64 0, .nils, .nils] := by kernel_rfl
@[go_sem] theorem fl36_0 : fldOf Go.Proofs.Try.prog 36 0 = some (0, 1, false) := by kernel_rfl
@[go_sem] theorem fl36_1 : fldOf Go.Proofs.Try.prog 36 1 = some (1, 1, false) := by kernel_rfl
@[go_sem] theorem fl36_2 : fldOf Go.Proofs.Try.prog 36 2 = some (2, 1, false) := by kernel_rfl
@[go_sem] theorem fl36_3 : fldOf Go.Proofs.Try.prog 36 3 = some (3, 1, false) := by kernel_rfl
@[go_sem] theorem ft36 : flatTy Go.Proofs.Try.prog 36 = false := by kernel_rfl
@[go_sem] theorem ty43 : tyOf Go.Proofs.Try.prog 43 = .slice 3 := by kernel_rfl
@[go_sem] theorem sz43 : szOf Go.Proofs.Try.prog 43 = 1 := by kernel_rfl
@[go_sem] theorem by43 : byOf Go.Proofs.Try.prog 43 = 24 := by kernel_rfl
@[go_sem] theorem kn43 : known Go.Proofs.Try.prog 43 = true := by kernel_rfl
@[go_sem] theorem zk43 : zeroOk Go.Proofs.Try.prog 43 = true := by kernel_rfl
@[go_sem] theorem ze43 : zeOf Go.Proofs.Try.prog 43 = .nils := by kernel_rfl
@[go_sem] theorem ty49 : tyOf Go.Proofs.Try.prog 49 = .slice 5 := by kernel_rfl
@[go_sem] theorem sz49 : szOf Go.Proofs.Try.prog 49 = 1 := by kernel_rfl
@[go_sem] theorem by49 : byOf Go.Proofs.Try.prog 49 = 24 := by kernel_rfl
@[go_sem] theorem kn49 : known Go.Proofs.Try.prog 49 = true := by kernel_rfl
@[go_sem] theorem zk49 : zeroOk Go.Proofs.Try.prog 49 = true := by kernel_rfl
@[go_sem] theorem ze49 : zeOf Go.Proofs.Try.prog 49 = .nils := by kernel_rfl
@[go_sem] theorem ty51 : tyOf Go.Proofs.Try.prog 51 = .slice 9 := by kernel_rfl
@[go_sem] theorem sz51 : szOf Go.Proofs.Try.prog 51 = 1 := by kernel_rfl
@[go_sem] theorem by51 : byOf Go.Proofs.Try.prog 51 = 24 := by kernel_rfl
@[go_sem] theorem kn51 : known Go.Proofs.Try.prog 51 = true := by kernel_rfl
@[go_sem] theorem zk51 : zeroOk Go.Proofs.Try.prog 51 = true := by kernel_rfl
@[go_sem] theorem ze51 : zeOf Go.Proofs.Try.prog 51 = .nils := by kernel_rfl
@[go_sem] theorem ty62 : tyOf Go.Proofs.Try.prog 62 = .slice 77 := by kernel_rfl
@[go_sem] theorem sz62 : szOf Go.Proofs.Try.prog 62 = 1 := by kernel_rfl
@[go_sem] theorem by62 : byOf Go.Proofs.Try.prog 62 = 24 := by kernel_rfl
@[go_sem] theorem kn62 : known Go.Proofs.Try.prog 62 = true := by kernel_rfl
@[go_sem] theorem zk62 : zeroOk Go.Proofs.Try.prog 62 = true := by kernel_rfl
@[go_sem] theorem ze62 : zeOf Go.Proofs.Try.prog 62 = .nils := by kernel_rfl
@[go_sem] theorem ty64 : tyOf Go.Proofs.Try.prog 64 = .strct [(0, 51), (1, 62), (2, 51)] := by kernel_rfl
@[go_sem] theorem sz64 : szOf Go.Proofs.Try.prog 64 = 3 := by kernel_rfl
@[go_sem] theorem by64 : byOf Go.Proofs.Try.prog 64 = 72 := by kernel_rfl
@[go_sem] theorem kn64 : known Go.Proofs.Try.prog 64 = true := by kernel_rfl
@[go_sem] theorem zk64 : zeroOk Go.Proofs.Try.prog 64 = true := by kernel_rfl
@[go_sem] theorem ze64 : zeOf Go.Proofs.Try.prog 64 = .agg [.nils, .nils, .nils] := by kernel_rfl
@[go_sem] theorem fl64_0 : fldOf Go.Proofs.Try.prog 64 0 = some (0, 1, false) := by kernel_rfl
@[go_sem] theorem fl64_1 : fldOf Go.Proofs.Try.prog 64 1 = some (1, 1, false) := by kernel_rfl
@[go_sem] theorem fl64_2 : fldOf Go.Proofs.Try.prog 64 2 = some (2, 1, false) := by kernel_rfl
@[go_sem] theorem ft64 : flatTy Go.Proofs.Try.prog 64 = false := by kernel_rfl
@[go_sem] theorem ty67 : tyOf Go.Proofs.Try.prog 67 = .slice 73 := by kernel_rfl
@[go_sem] theorem sz67 : szOf Go.Proofs.Try.prog 67 = 1 := by kernel_rfl
@[go_sem] theorem by67 : byOf Go.Proofs.Try.prog 67 = 24 := by kernel_rfl
@[go_sem] theorem kn67 : known Go.Proofs.Try.prog 67 = true := by kernel_rfl
@[go_sem] theorem zk67 : zeroOk Go.Proofs.Try.prog 67 = true := by kernel_rfl
@[go_sem] theorem ze67 : zeOf Go.Proofs.Try.prog 67 = .nils := by kernel_rfl
@[go_sem] theorem ty69 : tyOf Go.Proofs.Try.prog 69 = .slice 4 := by kernel_rfl
@[go_sem] theorem sz69 : szOf Go.Proofs.Try.prog 69 = 1 := by kernel_rfl
@[go_sem] theorem by69 : byOf Go.Proofs.Try.prog 69 = 24 := by kernel_rfl
@[go_sem] theorem kn69 : known Go.Proofs.Try.prog 69 = true := by kernel_rfl
@[go_sem] theorem zk69 : zeroOk Go.Proofs.Try.prog 69 = true := by kernel_rfl
@[go_sem] theorem ze69 : zeOf Go.Proofs.Try.prog 69 = .nils := by kernel_rfl
@[go_sem] theorem ty73 : tyOf Go.Proofs.Try.prog 73 = .strct [(0, 3), (1, 3), (2, 9), (3, 69), (4, 3)] := by kernel_rfl
@[go_sem] theorem sz73 : szOf Go.Proofs.Try.prog 73 = 5 := by kernel_rfl
@[go_sem] theorem by73 : byOf Go.Proofs.Try.prog 73 = 64 := by kernel_rfl
@[go_sem] theorem kn73 : known Go.Proofs.Try.prog 73 = true := by kernel_rfl
@[go_sem] theorem zk73 : zeroOk Go.Proofs.Try.prog 73 = true := by kernel_rfl
@[go_sem] theorem ze73 : zeOf Go.Proofs.Try.prog 73 = .agg [.int .i64 0, .int .i64 0, .str [], .nils, .int .i64 0] := by kernel_rfl
@[go_sem] theorem fl73_0 : fldOf Go.Proofs.Try.prog 73 0 = some (0, 1, false) := by kernel_rfl
@[go_sem] theorem fl73_1 : fldOf Go.Proofs.Try.prog 73 1 = some (1, 1, false) := by kernel_rfl
@[go_sem] theorem fl73_2 : fldOf Go.Proofs.Try.prog 73 2 = some (2, 1, false) := by kernel_rfl
@[go_sem] theorem fl73_3 : fldOf Go.Proofs.Try.prog 73 3 = some (3, 1, false) := by kernel_rfl
@[go_sem] theorem fl73_4 : fldOf Go.Proofs.Try.prog 73 4 = some (4, 1, false) := by kernel_rfl
@[go_sem] theorem ft73 : flatTy Go.Proofs.Try.prog 73 = false := by kernel_rfl
@[go_sem] theorem ty77 : tyOf Go.Proofs.Try.prog 77 = .strct [(0, 3), (1, 9)] := by kernel_rfl
@[go_sem] theorem sz77 : szOf Go.Proofs.Try.prog 77 = 2 := by kernel_rfl
@[go_sem] theorem by77 : byOf Go.Proofs.Try.prog 77 = 24 := by kernel_rfl
@[go_sem] theorem kn77 : known Go.Proofs.Try.prog 77 = true := by kernel_rfl
@[go_sem] theorem zk77 : zeroOk Go.Proofs.Try.prog 77 = true := by kernel_rfl
@[go_sem] theorem ze77 : zeOf Go.Proofs.Try.prog 77 = .agg [.int .i64 0, .str []] := by kernel_rfl
@[go_sem] theorem fl77_0 : fldOf Go.Proofs.Try.prog 77 0 = some (0, 1, false) := by kernel_rfl
@[go_sem] theorem fl77_1 : fldOf Go.Proofs.Try.prog 77 1 = some (1, 1, false) := by kernel_rfl
@[go_sem] theorem ft77 : flatTy Go.Proofs.Try.prog 77 = true := by kernel_rfl
@[go_sem] theorem ty90 : tyOf Go.Proofs.Try.prog 90 = .strct [(0, 3), (1, 3)] := by kernel_rfl
@[go_sem] theorem sz90 : szOf Go.Proofs.Try.prog 90 = 2 := by kernel_rfl
@[go_sem] theorem by90 : byOf Go.Proofs.Try.prog 90 = 16 := by kernel_rfl
@[go_sem] theorem kn90 : known Go.Proofs.Try.prog 90 = true := by kernel_rfl
@[go_sem] theorem zk90 : zeroOk Go.Proofs.Try.prog 90 = true := by kernel_rfl
@[go_sem] theorem ze90 : zeOf Go.Proofs.Try.prog 90 = .agg [.int .i64 0, .int .i64 0] := by kernel_rfl
@[go_sem] theorem fl90_0 : fldOf Go.Proofs.Try.prog 90 0 = some (0, 1, false) := by kernel_rfl
@[go_sem] theorem fl90_1 : fldOf Go.Proofs.Try.prog 90 1 = some (1, 1, false) := by kernel_rfl
@[go_sem] theorem ft90 : flatTy Go.Proofs.Try.prog 90 = true := by kernel_rfl
@[go_sem] theorem ty92 : tyOf Go.Proofs.Try.prog 92 = .strct [(0, 4), (1, 90), (3, 90), (5, 43), (6, 90)] := by kernel_rfl
@[go_sem] theorem sz92 : szOf Go.Proofs.Try.prog 92 = 8 := by kernel_rfl
@[go_sem] theorem by92 : byOf Go.Proofs.Try.prog 92 = 80 := by kernel_rfl
@[go_sem] theorem kn92 : known Go.Proofs.Try.prog 92 = true := by kernel_rfl
@[go_sem] theorem zk92 : zeroOk Go.Proofs.Try.prog 92 = true := by kernel_rfl
@[go_sem] theorem ze92 : zeOf Go.Proofs.Try.prog 92 = .agg [.bool false, .int .i64 0, .int .i64 0, .int .i64 0, .int .i64 0, .nils, .int .i64 0, .int .i64 0] := by kernel_rfl
@[go_sem] theorem fl92_0 : fldOf Go.Proofs.Try.prog 92 0 = some (0, 1, false) := by kernel_rfl
@[go_sem] theorem fl92_1 : fldOf Go.Proofs.Try.prog 92 1 = some (1, 2, true) := by kernel_rfl
@[go_sem] theorem fl92_2 : fldOf Go.Proofs.Try.prog 92 2 = some (3, 2, true) := by kernel_rfl
@[go_sem] theorem fl92_3 : fldOf Go.Proofs.Try.prog 92 3 = some (5, 1, false) := by kernel_rfl
@[go_sem] theorem fl92_4 : fldOf Go.Proofs.Try.prog 92 4 = some (6, 2, true) := by kernel_rfl
@[go_sem] theorem ft92 : flatTy Go.Proofs.Try.prog 92 = false := by kernel_rfl
@[go_sem] theorem ty95 : tyOf Go.Proofs.Try.prog 95 = .strct [(0, 90), (2, 43), (3, 3), (4, 3)] := by kernel_rfl
@[go_sem] theorem sz95 : szOf Go.Proofs.Try.prog 95 = 5 := by kernel_rfl
@[go_sem] theorem by95 : byOf Go.Proofs.Try.prog 95 = 56 := by kernel_rfl
@[go_sem] theorem kn95 : known Go.Proofs.Try.prog 95 = true := by kernel_rfl
@[go_sem] theorem zk95 : zeroOk Go.Proofs.Try.prog 95 = true := by kernel_rfl
@[go_sem] theorem ze95 : zeOf Go.Proofs.Try.prog 95 = .agg [.int .i64 0, .int .i64 0, .nils, .int .i64 0, .int .i64 0] := by kernel_rfl
@[go_sem] theorem fl95_0 : fldOf Go.Proofs.Try.prog 95 0 = some (0, 2, true) := by kernel_rfl
@[go_sem] theorem fl95_1 : fldOf Go.Proofs.Try.prog 95 1 = some (2, 1, false) := by kernel_rfl
@[go_sem] theorem fl95_2 : fldOf Go.Proofs.Try.prog 95 2 = some (3, 1, false) := by kernel_rfl
@[go_sem] theorem fl95_3 : fldOf Go.Proofs.Try.prog 95 3 = some (4, 1, false) := by kernel_rfl
@[go_sem] theorem ft95 : flatTy Go.Proofs.Try.prog 95 = false := by kernel_rfl
@[go_sem] theorem ty97 : tyOf Go.Proofs.Try.prog 97 = .strct [(0, 43), (1, 90), (3, 3), (4, 3)] := by kernel_rfl
@[go_sem] theorem sz97 : szOf Go.Proofs.Try.prog 97 = 5 := by kernel_rfl
@[go_sem] theorem by97 : byOf Go.Proofs.Try.prog 97 = 56 := by kernel_rfl
@[go_sem] theorem kn97 : known Go.Proofs.Try.prog 97 = true := by kernel_rfl
@[go_sem] theorem zk97 : zeroOk Go.Proofs.Try.prog 97 = true := by kernel_rfl
@[go_sem] theorem ze97 : zeOf Go.Proofs.Try.prog 97 = .agg [.nils, .int .i64 0, .int .i64 0, .int .i64 0, .int .i64 0] := by kernel_rfl
@[go_sem] theorem fl97_0 : fldOf Go.Proofs.Try.prog 97 0 = some (0, 1, false) := by kernel_rfl
@[go_sem] theorem fl97_1 : fldOf Go.Proofs.Try.prog 97 1 = some (1, 2, true) := by kernel_rfl
@[go_sem] theorem fl97_2 : fldOf Go.Proofs.Try.prog 97 2 = some (3, 1, false) := by kernel_rfl
@[go_sem] theorem fl97_3 : fldOf Go.Proofs.Try.prog 97 3 = some (4, 1, false) := by kernel_rfl
@[go_sem] theorem ft97 : flatTy Go.Proofs.Try.prog 97 = false := by kernel_rfl
@[go_sem] theorem ty104 : tyOf Go.Proofs.Try.prog 104 = .func := by kernel_rfl
@[go_sem] theorem sz104 : szOf Go.Proofs.Try.prog 104 = 1 := by kernel_rfl
@[go_sem] theorem by104 : byOf Go.Proofs.Try.prog 104 = 8 := by kernel_rfl
@[go_sem] theorem kn104 : known Go.Proofs.Try.prog 104 = true := by kernel_rfl
@[go_sem] theorem zk104 : zeroOk Go.Proofs.Try.prog 104 = true := by kernel_rfl
@[go_sem] theorem ze104 : zeOf Go.Proofs.Try.prog 104 = .nilf := by kernel_rfl
@[go_sem] theorem ty107 : tyOf Go.Proofs.Try.prog 107 = .func := by kernel_rfl
@[go_sem] theorem sz107 : szOf Go.Proofs.Try.prog 107 = 1 := by kernel_rfl
@[go_sem] theorem by107 : byOf Go.Proofs.Try.prog 107 = 8 := by kernel_rfl
@[go_sem] theorem kn107 : known Go.Proofs.Try.prog 107 = true := by kernel_rfl
@[go_sem] theorem zk107 : zeroOk Go.Proofs.Try.prog 107 = true := by kernel_rfl
@[go_sem] theorem ze107 : zeOf Go.Proofs.Try.prog 107 = .nilf := by kernel_rfl
@[go_sem] theorem ty109 : tyOf Go.Proofs.Try.prog 109 = .func := by kernel_rfl
@[go_sem] theorem sz109 : szOf Go.Proofs.Try.prog 109 = 1 := by kernel_rfl
@[go_sem] theorem by109 : byOf Go.Proofs.Try.prog 109 = 8 := by kernel_rfl
@[go_sem] theorem kn109 : known Go.Proofs.Try.prog 109 = true := by kernel_rfl
@[go_sem] theorem zk109 : zeroOk Go.Proofs.Try.prog 109 = true := by kernel_rfl
@[go_sem] theorem ze109 : zeOf Go.Proofs.Try.prog 109 = .nilf := by kernel_rfl
@[go_sem] theorem ty110 : tyOf Go.Proofs.Try.prog 110 = .ptr 146 := by kernel_rfl
@[go_sem] theorem sz110 : szOf Go.Proofs.Try.prog 110 = 1 := by kernel_rfl
@[go_sem] theorem by110 : byOf Go.Proofs.Try.prog 110 = 8 := by kernel_rfl
@[go_sem] theorem kn110 : known Go.Proofs.Try.prog 110 = true := by kernel_rfl
@[go_sem] theorem zk110 : zeroOk Go.Proofs.Try.prog 110 = true := by kernel_rfl
@[go_sem] theorem ze110 : zeOf Go.Proofs.Try.prog 110 = .undef := by kernel_rfl
@[go_sem] theorem ty118 : tyOf Go.Proofs.Try.prog 118 = .func := by kernel_rfl
@[go_sem] theorem sz118 : szOf Go.Proofs.Try.prog 118 = 1 := by kernel_rfl
@[go_sem] theorem by118 : byOf Go.Proofs.Try.prog 118 = 8 := by kernel_rfl
@[go_sem] theorem kn118 : known Go.Proofs.Try.prog 118 = true := by kernel_rfl
@[go_sem] theorem zk118 : zeroOk Go.Proofs.Try.prog 118 = true := by kernel_rfl
@[go_sem] theorem ze118 : zeOf Go.Proofs.Try.prog 118 = .nilf := by kernel_rfl
@[go_sem] theorem ty131 : tyOf Go.Proofs.Try.prog 131 = .strct [(0, 3), (1, 3)] := by kernel_rfl
@[go_sem] theorem sz131 : szOf Go.Proofs.Try.prog 131 = 2 := by kernel_rfl
@[go_sem] theorem by131 : byOf Go.Proofs.Try.prog 131 = 16 := by kernel_rfl
@[go_sem] theorem kn131 : known Go.Proofs.Try.prog 131 = true := by kernel_rfl
@[go_sem] theorem zk131 : zeroOk Go.Proofs.Try.prog 131 = true := by kernel_rfl
@[go_sem] theorem ze131 : zeOf Go.Proofs.Try.prog 131 = .agg [.int .i64 0, .int .i64 0] := by kernel_rfl
@[go_sem] theorem fl131_0 : fldOf Go.Proofs.Try.prog 131 0 = some (0, 1, false) := by kernel_rfl
@[go_sem] theorem fl131_1 : fldOf Go.Proofs.Try.prog 131 1 = some (1, 1, false) := by kernel_rfl
@[go_sem] theorem ft131 : flatTy Go.Proofs.Try.prog 131 = true := by kernel_rfl
@[go_sem] theorem ty133 : tyOf Go.Proofs.Try.prog 133 = .strct [(0, 4), (1, 131), (3, 131), (5, 43), (6, 131)] := by kernel_rfl
@[go_sem] theorem sz133 : szOf Go.Proofs.Try.prog 133 = 8 := by kernel_rfl
@[go_sem] theorem by133 : byOf Go.Proofs.Try.prog 133 = 80 := by kernel_rfl
@[go_sem] theorem kn133 : known Go.Proofs.Try.prog 133 = true := by kernel_rfl
@[go_sem] theorem zk133 : zeroOk Go.Proofs.Try.prog 133 = true := by kernel_rfl
@[go_sem] theorem ze133 : zeOf Go.Proofs.Try.prog 133 = .agg [.bool false, .int .i64 0, .int .i64 0, .int .i64 0, .int .i64 0, .nils, .int .i64 0, .int .i64 0] := by kernel_rfl
@[go_sem] theorem fl133_0 : fldOf Go.Proofs.Try.prog 133 0 = some (0, 1, false) := by kernel_rfl
@[go_sem] theorem fl133_1 : fldOf Go.Proofs.Try.prog 133 1 = some (1, 2, true) := by kernel_rfl
@[go_sem] theorem fl133_2 : fldOf Go.Proofs.Try.prog 133 2 = some (3, 2, true) := by kernel_rfl
@[go_sem] theorem fl133_3 : fldOf Go.Proofs.Try.prog 133 3 = some (5, 1, false) := by kernel_rfl
@[go_sem] theorem fl133_4 : fldOf Go.Proofs.Try.prog 133 4 = some (6, 2, true) := by kernel_rfl
@[go_sem] theorem ft133 : flatTy Go.Proofs.Try.prog 133 = false := by kernel_rfl
@[go_sem] theorem ty136 : tyOf Go.Proofs.Try.prog 136 = .strct [(0, 131), (2, 43), (3, 3), (4, 3)] := by kernel_rfl
@[go_sem] theorem sz136 : szOf Go.Proofs.Try.prog 136 = 5 := by kernel_rfl
@[go_sem] theorem by136 : byOf Go.Proofs.Try.prog 136 = 56 := by kernel_rfl
@[go_sem] theorem kn136 : known Go.Proofs.Try.prog 136 = true := by kernel_rfl
@[go_sem] theorem zk136 : zeroOk Go.Proofs.Try.prog 136 = true := by kernel_rfl
@[go_sem] theorem ze136 : zeOf Go.Proofs.Try.prog 136 = .agg [.int .i64 0, .int .i64 0, .nils, .int .i64 0, .int .i64 0] := by kernel_rfl
@[go_sem] theorem fl136_0 : fldOf Go.Proofs.Try.prog 136 0 = some (0, 2, true) := by kernel_rfl
@[go_sem] theorem fl136_1 : fldOf Go.Proofs.Try.prog 136 1 = some (2, 1, false) := by kernel_rfl
@[go_sem] theorem fl136_2 : fldOf Go.Proofs.Try.prog 136 2 = some (3, 1, false) := by kernel_rfl
@[go_sem] theorem fl136_3 : fldOf Go.Proofs.Try.prog 136 3 = some (4, 1, false) := by kernel_rfl
@[go_sem] theorem ft136 : flatTy Go.Proofs.Try.prog 136 = false := by kernel_rfl
@[go_sem] theorem ty139 : tyOf Go.Proofs.Try.prog 139 = .strct [(0, 43), (1, 131), (3, 3), (4, 3)] := by kernel_rfl
@[go_sem] theorem sz139 : szOf Go.Proofs.Try.prog 139 = 5 := by kernel_rfl
@[go_sem] theorem by139 : byOf Go.Proofs.Try.prog 139 = 56 := by kernel_rfl
@[go_sem] theorem kn139 : known Go.Proofs.Try.prog 139 = true := by kernel_rfl
@[go_sem] theorem zk139 : zeroOk Go.Proofs.Try.prog 139 = true := by kernel_rfl
@[go_sem] theorem ze139 : zeOf Go.Proofs.Try.prog 139 = .agg [.nils, .int .i64 0, .int .i64 0, .int .i64 0, .int .i64 0] := by kernel_rfl
@[go_sem] theorem fl139_0 : fldOf Go.Proofs.Try.prog 139 0 = some (0, 1, false) := by kernel_rfl
@[go_sem] theorem fl139_1 : fldOf Go.Proofs.Try.prog 139 1 = some (1, 2, true) := by kernel_rfl
@[go_sem] theorem fl139_2 : fldOf Go.Proofs.Try.prog 139 2 = some (3, 1, false) := by kernel_rfl
@[go_sem] theorem fl139_3 : fldOf Go.Proofs.Try.prog 139 3 = some (4, 1, false) := by kernel_rfl
@[go_sem] theorem ft139 : flatTy Go.Proofs.Try.prog 139 = false := by kernel_rfl
@[go_sem] theorem ty146 : tyOf Go.Proofs.Try.prog 146 = .strct [(0, 49), (1, 3), (2, 3)] := by kernel_rfl
@[go_sem] theorem sz146 : szOf Go.Proofs.Try.prog 146 = 3 := by kernel_rfl
@[go_sem] theorem by146 : byOf Go.Proofs.Try.prog 146 = 40 := by kernel_rfl
@[go_sem] theorem kn146 : known Go.Proofs.Try.prog 146 = true := by kernel_rfl
@[go_sem] theorem zk146 : zeroOk Go.Proofs.Try.prog 146 = true := by kernel_rfl
@[go_sem] theorem ze146 : zeOf Go.Proofs.Try.prog 146 = .agg [.nils, .int .i64 0, .int .i64 0] := by kernel_rfl
@[go_sem] theorem fl146_0 : fldOf Go.Proofs.Try.prog 146 0 = some (0, 1, false) := by kernel_rfl
@[go_sem] theorem fl146_1 : fldOf Go.Proofs.Try.prog 146 1 = some (1, 1, false) := by kernel_rfl
@[go_sem] theorem fl146_2 : fldOf Go.Proofs.Try.prog 146 2 = some (2, 1, false) := by kernel_rfl
@[go_sem] theorem ft146 : flatTy Go.Proofs.Try.prog 146 = false := by kernel_rfl
@[go_sem] theorem ty148 : tyOf Go.Proofs.Try.prog 148 = .slice 49 := by kernel_rfl
@[go_sem] theorem sz148 : szOf Go.Proofs.Try.prog 148 = 1 := by kernel_rfl
@[go_sem] theorem by148 : byOf Go.Proofs.Try.prog 148 = 24 := by kernel_rfl
@[go_sem] theorem kn148 : known Go.Proofs.Try.prog 148 = true := by kernel_rfl
@[go_sem] theorem zk148 : zeroOk Go.Proofs.Try.prog 148 = true := by kernel_rfl
@[go_sem] theorem ze148 : zeOf Go.Proofs.Try.prog 148 = .nils := by kernel_rfl
@[go_sem] theorem ty150 : tyOf Go.Proofs.Try.prog 150 = .func := by kernel_rfl
@[go_sem] theorem sz150 : szOf Go.Proofs.Try.prog 150 = 1 := by kernel_rfl
@[go_sem] theorem by150 : byOf Go.Proofs.Try.prog 150 = 8 := by kernel_rfl
@[go_sem] theorem kn150 : known Go.Proofs.Try.prog 150 = true := by kernel_rfl
@[go_sem] theorem zk150 : zeroOk Go.Proofs.Try.prog 150 = true := by kernel_rfl
@[go_sem] theorem ze150 : zeOf Go.Proofs.Try.prog 150 = .nilf := by kernel_rfl
@[go_sem] theorem ty151 : tyOf Go.Proofs.Try.prog 151 = .ptr 153 := by kernel_rfl
@[go_sem] theorem sz151 : szOf Go.Proofs.Try.prog 151 = 1 := by kernel_rfl
@[go_sem] theorem by151 : byOf Go.Proofs.Try.prog 151 = 8 := by kernel_rfl
@[go_sem] theorem kn151 : known Go.Proofs.Try.prog 151 = true := by kernel_rfl
@[go_sem] theorem zk151 : zeroOk Go.Proofs.Try.prog 151 = true := by kernel_rfl
@[go_sem] theorem ze151 : zeOf Go.Proofs.Try.prog 151 = .undef := by kernel_rfl
@[go_sem] theorem ty153 : tyOf Go.Proofs.Try.prog 153 = .strct [(0, 151), (1, 49)] := by kernel_rfl
@[go_sem] theorem sz153 : szOf Go.Proofs.Try.prog 153 = 2 := by kernel_rfl
@[go_sem] theorem by153 : byOf Go.Proofs.Try.prog 153 = 32 := by kernel_rfl
@[go_sem] theorem kn153 : known Go.Proofs.Try.prog 153 = true := by kernel_rfl
@[go_sem] theorem zk153 : zeroOk Go.Proofs.Try.prog 153 = true := by kernel_rfl
@[go_sem] theorem ze153 : zeOf Go.Proofs.Try.prog 153 = .agg [.undef, .nils] := by kernel_rfl
@[go_sem] theorem fl153_0 : fldOf Go.Proofs.Try.prog 153 0 = some (0, 1, false) := by kernel_rfl
@[go_sem] theorem fl153_1 : fldOf Go.Proofs.Try.prog 153 1 = some (1, 1, false) := by kernel_rfl
@[go_sem] theorem ft153 : flatTy Go.Proofs.Try.prog 153 = false := by kernel_rfl
@[go_sem] theorem ty162 : tyOf Go.Proofs.Try.prog 162 = .func := by kernel_rfl
@[go_sem] theorem sz162 : szOf Go.Proofs.Try.prog 162 = 1 := by kernel_rfl
@[go_sem] theorem by162 : byOf Go.Proofs.Try.prog 162 = 8 := by kernel_rfl
@[go_sem] theorem kn162 : known Go.Proofs.Try.prog 162 = true := by kernel_rfl
@[go_sem] theorem zk162 : zeroOk Go.Proofs.Try.prog 162 = true := by kernel_rfl
@[go_sem] theorem ze162 : zeOf Go.Proofs.Try.prog 162 = .nilf := by kernel_rfl
@[go_sem] theorem ty165 : tyOf Go.Proofs.Try.prog 165 = .func := by kernel_rfl
@[go_sem] theorem sz165 : szOf Go.Proofs.Try.prog 165 = 1 := by kernel_rfl
@[go_sem] theorem by165 : byOf Go.Proofs.Try.prog 165 = 8 := by kernel_rfl
@[go_sem] theorem kn165 : known Go.Proofs.Try.prog 165 = true := by kernel_rfl
@[go_sem] theorem zk165 : zeroOk Go.Proofs.Try.prog 165 = true := by kernel_rfl
@[go_sem] theorem ze165 : zeOf Go.Proofs.Try.prog 165 = .nilf := by kernel_rfl
@[go_sem] theorem ty168 : tyOf Go.Proofs.Try.prog 168 = .ptr 64 := by kernel_rfl
@[go_sem] theorem sz168 : szOf Go.Proofs.Try.prog 168 = 1 := by kernel_rfl
@[go_sem] theorem by168 : byOf Go.Proofs.Try.prog 168 = 8 := by kernel_rfl
@[go_sem] theorem kn168 : known Go.Proofs.Try.prog 168 = true := by kernel_rfl
@[go_sem] theorem zk168 : zeroOk Go.Proofs.Try.prog 168 = true := by kernel_rfl
@[go_sem] theorem ze168 : zeOf Go.Proofs.Try.prog 168 = .undef := by kernel_rfl
@[go_sem] theorem ty178 : tyOf Go.Proofs.Try.prog 178 = .ptr 5 := by kernel_rfl
@[go_sem] theorem sz178 : szOf Go.Proofs.Try.prog 178 = 1 := by kernel_rfl
@[go_sem] theorem by178 : byOf Go.Proofs.Try.prog 178 = 8 := by kernel_rfl
@[go_sem] theorem kn178 : known Go.Proofs.Try.prog 178 = true := by kernel_rfl
@[go_sem] theorem zk178 : zeroOk Go.Proofs.Try.prog 178 = true := by kernel_rfl
@[go_sem] theorem ze178 : zeOf Go.Proofs.Try.prog 178 = .undef := by kernel_rfl
@[go_sem] theorem an3 : ann 3 = { vs := [2, 3, 4, 5, 6, 7, 8, 9, 10] } := by kernel_rfl
@[go_sem] theorem an4 : ann 4 = { vs := [1, 2, 3, 4, 5, 6] } := by kernel_rfl
@[go_sem] theorem an5 : ann 5 = { vs := [1, 2, 3, 4, 5, 6, 7, 8] } := by kernel_rfl
@[go_sem] theorem an6 : ann 6 = { vs := [2, 4, 5, 6, 7, 8, 9, 10, 11, 12, 13, 14, 15] } := by kernel_rfl
@[go_sem] theorem an7 : ann 7 = { vs := [4, 5, 6, 7, 8, 9, 10, 11, 13, 14, 15, 16, 17, 18, 19, 21], keep := [(0, [(7, .v), (9, .v), (17, .v), (21, .v)])] } := by kernel_rfl
@[go_sem] theorem an8 : ann 8 = { vs := [4, 5, 8, 9, 10, 11, 13, 14, 15, 16], keep := [(0, [(5, .v), (9, .v), (13, .v), (14, .v)]), (2, [(5, .v), (9, .v), (13, .v), (14, .v), (15, .v), (16, .v)])] } := by kernel_rfl
@[go_sem] theorem an9 : ann 9 = { vs := [2, 3] } := by kernel_rfl
@[go_sem] theorem an10 : ann 10 = { vs := [2, 3] } := by kernel_rfl
@[go_sem] theorem an11 : ann 11 = { vs := [2, 3, 4] } := by kernel_rfl
@[go_sem] theorem an12 : ann 12 = { vs := [2, 4], modes := [.l] } := by kernel_rfl
@[go_sem] theorem an13 : ann 13 = { vs := [2, 4] } := by kernel_rfl
@[go_sem] theorem an14 : ann 14 = { vs := [2, 4] } := by kernel_rfl
@[go_sem] theorem an15 : ann 15 = { vs := [1, 2, 3, 4, 5, 6, 7, 8, 9], keep := [(0, [(1, .v), (3, .v), (4, .v)]), (2, [(1, .v), (3, .v), (6, .v)]), (4, [(1, .v), (3, .v), (8, .v)])] } := by kernel_rfl
@[go_sem] theorem an16 : ann 16 = { vs := [1, 2, 3] } := by kernel_rfl
@[go_sem] theorem an17 : ann 17 = { vs := [1, 2, 3, 4, 29, 30, 31], keep := [(0, [(1, .v), (29, .v), (30, .v), (31, .v)])] } := by kernel_rfl
@[go_sem] theorem an18 : ann 18 = { vs := [1, 2, 3, 4, 5, 6, 7], keep := [(0, [(1, .v), (4, .v)]), (2, [(1, .v), (4, .v), (5, .v), (6, .v)])] } := by kernel_rfl
@[go_sem] theorem an19 : ann 19 = { vs := [1, 2, 3] } := by kernel_rfl
@[go_sem] theorem an20 : ann 20 = { vs := [2, 4, 5, 6, 7], keep := [(0, [(1, .v), (2, .v), (6, .o 1 true), (7, .v)])] } := by kernel_rfl
@[go_sem] theorem an21 : ann 21 = { vs := [2, 4, 5, 6, 7, 8, 13, 14, 15], keep := [(0, [(1, .v), (6, .o 1 true), (13, .v), (14, .v), (15, .v)])] } := by kernel_rfl
@[go_sem] theorem an22 : ann 22 = { vs := [4, 5], keep := [(0, [(0, .v), (1, .v), (5, .v)])] } := by kernel_rfl
@[go_sem] theorem an23 : ann 23 = { vs := [4, 5], keep := [(0, [(0, .v), (1, .v), (5, .v)])], modes := [.l] } := by kernel_rfl
@[go_sem] theorem an24 : ann 24 = { vs := [4, 5], keep := [(0, [(0, .v), (1, .v), (5, .v)])] } := by kernel_rfl
@[go_sem] theorem an25 : ann 25 = { vs := [2] } := by kernel_rfl
@[go_sem] theorem an26 : ann 26 = { vs := [2, 3] } := by kernel_rfl
@[go_sem] theorem an27 : ann 27 = { vs := [2, 3] } := by kernel_rfl
@[go_sem] theorem an28 : ann 28 = { vs := [2, 3] } := by kernel_rfl
@[go_sem] theorem an29 : ann 29 = { vs := [2, 3] } := by kernel_rfl
@[go_sem] theorem an30 : ann 30 = { vs := [4, 5, 6, 7, 8, 25, 26, 27], keep := [(1, [(0, .v), (6, .o 1 true), (25, .v), (26, .v), (27, .v)])] } := by kernel_rfl
@[go_sem] theorem an31 : ann 31 = { vs := [4, 5] } := by kernel_rfl
@[go_sem] theorem an32 : ann 32 = { vs := [4, 5], keep := [(0, [(0, .v), (1, .v), (5, .v)])] } := by kernel_rfl
@[go_sem] theorem an33 : ann 33 = { vs := [4, 5], keep := [(0, [(0, .v), (1, .v), (5, .v)])] } := by kernel_rfl
@[go_sem] theorem an34 : ann 34 = { vs := [4, 5], keep := [(0, [(0, .v), (1, .v), (5, .v)])] } := by kernel_rfl
@[go_sem] theorem an35 : ann 35 = { vs := [4, 5, 6, 7, 8, 9, 10, 11, 12], keep := [(0, [(1, .v), (4, .v), (7, .v), (9, .o 1 true), (10, .v)])] } := by kernel_rfl
@[go_sem] theorem an36 : ann 36 = { vs := [4] } := by kernel_rfl
@[go_sem] theorem an37 : ann 37 = { vs := [4] } := by kernel_rfl
@[go_sem] theorem an38 : ann 38 = { vs := [6] } := by kernel_rfl
@[go_sem] theorem an39 : ann 39 = { vs := [2, 3, 4, 5, 6, 7] } := by kernel_rfl
@[go_sem] theorem an40 : ann 40 = { vs := [2, 3, 4, 5, 6, 7] } := by kernel_rfl
@[go_sem] theorem an41 : ann 41 = { vs := [6] } := by kernel_rfl
@[go_sem] theorem an42 : ann 42 = { vs := [2, 3, 4], keep := [(0, [(0, .v), (2, .v), (3, .v), (4, .v)])] } := by kernel_rfl
@[go_sem] theorem an43 : ann 43 = { vs := [2] } := by kernel_rfl
@[go_sem] theorem an44 : ann 44 = { vs := [4, 5], keep := [(0, [(0, .v), (1, .v), (5, .v)])] } := by kernel_rfl
@[go_sem] theorem an45 : ann 45 = { vs := [4, 5], keep := [(0, [(0, .v), (1, .v), (5, .v)])] } := by kernel_rfl
@[go_sem] theorem an46 : ann 46 = { vs := [4, 5], keep := [(0, [(0, .v), (1, .v), (5, .v)])] } := by kernel_rfl
@[go_sem] theorem an47 : ann 47 = { vs := [4, 5], keep := [(0, [(0, .v), (1, .v), (5, .v)])], modes := [.l] } := by kernel_rfl
@[go_sem] theorem an48 : ann 48 = { vs := [4, 5], keep := [(0, [(0, .v), (1, .v), (5, .v)])], modes := [.l] } := by kernel_rfl
@[go_sem] theorem an49 : ann 49 = { vs := [4, 5], keep := [(0, [(0, .v), (1, .v), (5, .v)])], modes := [.l] } := by kernel_rfl
@[go_sem] theorem an50 : ann 50 = { vs := [4, 5], keep := [(0, [(0, .v), (1, .v), (5, .v)])] } := by kernel_rfl
@[go_sem] theorem an51 : ann 51 = { vs := [4, 5], keep := [(0, [(0, .v), (1, .v), (5, .v)])] } := by kernel_rfl
@[go_sem] theorem an52 : ann 52 = { vs := [4, 5], keep := [(0, [(0, .v), (1, .v), (5, .v)])] } := by kernel_rfl
@[go_sem] theorem an53 : ann 53 = { vs := [4, 5], keep := [(0, [(0, .v), (1, .v), (5, .v)])] } := by kernel_rfl
@[go_sem] theorem an54 : ann 54 = { vs := [4, 5], keep := [(0, [(0, .v), (1, .v), (5, .v)])] } := by kernel_rfl
@[go_sem] theorem an55 : ann 55 = { vs := [4, 5], keep := [(0, [(0, .v), (1, .v), (5, .v)])] } := by kernel_rfl
@[go_sem] theorem an56 : ann 56 = { vs := [1, 2] } := by kernel_rfl
@[go_sem] theorem an57 : ann 57 = { vs := [4, 5], keep := [(0, [(0, .v), (1, .v), (5, .v)])] } := by kernel_rfl
@[go_sem] theorem an58 : ann 58 = { vs := [2, 3, 4], keep := [(0, [(0, .v), (3, .v), (4, .v)])] } := by kernel_rfl
@[go_sem] theorem an59 : ann 59 = { vs := [2, 3, 4], keep := [(0, [(0, .v), (3, .v), (4, .v)])] } := by kernel_rfl
@[go_sem] theorem an60 : ann 60 = { vs := [2, 3, 4], keep := [(0, [(0, .v), (3, .v), (4, .v)])] } := by kernel_rfl
@[go_sem] theorem an61 : ann 61 = { vs := [6] } := by kernel_rfl
@[go_sem] theorem an62 : ann 62 = { vs := [3, 5, 6] } := by kernel_rfl
@[go_sem] theorem an63 : ann 63 = { vs := [3, 4] } := by kernel_rfl
@[go_sem] theorem an64 : ann 64 = { vs := [2, 3] } := by kernel_rfl
@[go_sem] theorem an65 : ann 65 = { vs := [1, 2] } := by kernel_rfl
@[go_sem] theorem an66 : ann 66 = { vs := [2, 4] } := by kernel_rfl
@[go_sem] theorem an67 : ann 67 = { vs := [3, 4] } := by kernel_rfl
@[go_sem] theorem an68 : ann 68 = { vs := [2, 3] } := by kernel_rfl
@[go_sem] theorem an69 : ann 69 = { vs := [3, 6] } := by kernel_rfl
@[go_sem] theorem an70 : ann 70 = { vs := [2, 3] } := by kernel_rfl
@[go_sem] theorem an71 : ann 71 = { vs := [3, 4] } := by kernel_rfl
@[go_sem] theorem an72 : ann 72 = { vs := [2, 3] } := by kernel_rfl
@[go_sem] theorem an73 : ann 73 = { vs := [2] } := by kernel_rfl
@[go_sem] theorem an74 : ann 74 = { vs := [2], modes := [.l] } := by kernel_rfl
@[go_sem] theorem an75 : ann 75 = { vs := [2] } := by kernel_rfl
@[go_sem] theorem an76 : ann 76 = { vs := [2, 3, 4], keep := [(0, [(0, .v), (3, .o 1 true)]), (1000004, [])] } := by kernel_rfl
@[go_sem] theorem an77 : ann 77 = { vs := [2, 3, 4], keep := [(0, [(0, .v), (3, .o 1 true), (4, .v)])] } := by kernel_rfl
@[go_sem] theorem an78 : ann 78 = { vs := [2] } := by kernel_rfl
@[go_sem] theorem an79 : ann 79 = { vs := [2, 3, 4, 5, 6, 7], keep := [(0, [(0, .v), (5, .v), (6, .v), (7, .v)])] } := by kernel_rfl
@[go_sem] theorem an80 : ann 80 = { vs := [4, 5, 7, 8, 10, 12, 39, 40, 41, 63, 64, 65], keep := [(1, [(0, .v), (1, .v), (5, .v), (39, .v), (40, .v), (41, .v)]), (3, [(1, .v), (8, .v), (63, .v), (64, .v), (65, .v)])] } := by kernel_rfl
@[go_sem] theorem an81 : ann 81 = { vs := [2] } := by kernel_rfl
@[go_sem] theorem an82 : ann 82 = { vs := [2, 3], keep := [(0, [(0, .v), (3, .v)])] } := by kernel_rfl
@[go_sem] theorem an83 : ann 83 = { vs := [4, 5, 6], keep := [(0, [(0, .v), (1, .v), (5, .o 1 true), (6, .v)])] } := by kernel_rfl
@[go_sem] theorem an84 : ann 84 = { vs := [2, 3] } := by kernel_rfl
@[go_sem] theorem an85 : ann 85 = { vs := [2, 3, 4, 5, 6, 7, 8, 9, 11] } := by kernel_rfl
@[go_sem] theorem an86 : ann 86 = { vs := [1, 2], keep := [(1000001, [])] } := by kernel_rfl
@[go_sem] theorem an87 : ann 87 = { vs := [4, 5, 6, 7, 30], keep := [(0, [(0, .v), (1, .v), (5, .o 5 false), (6, .v)])], modes := [.l] } := by kernel_rfl
@[go_sem] theorem an88 : ann 88 = { vs := [4, 5, 6], keep := [(0, [(0, .v), (5, .o 1 true), (6, .v)])], modes := [.l] } := by kernel_rfl
@[go_sem] theorem an89 : ann 89 = { vs := [1, 2] } := by kernel_rfl
@[go_sem] theorem an90 : ann 90 = { vs := [1, 2] } := by kernel_rfl
@[go_sem] theorem an91 : ann 91 = { vs := [3, 4, 5, 7], keep := [(1000013, [])] } := by kernel_rfl
@[go_sem] theorem an92 : ann 92 = { vs := [1, 2, 3, 4, 5], keep := [(0, [(1, .v), (3, .v)]), (2, [(1, .v), (4, .v)]), (4, [(1, .v), (5, .v)])] } := by kernel_rfl
@[go_sem] theorem an93 : ann 93 = { vs := [2, 3, 4] } := by kernel_rfl
@[go_sem] theorem an94 : ann 94 = { vs := [2, 3, 4] } := by kernel_rfl
@[go_sem] theorem an95 : ann 95 = { vs := [2, 3, 4] } := by kernel_rfl
@[go_sem] theorem an96 : ann 96 = { vs := [2, 4] } := by kernel_rfl
@[go_sem] theorem an97 : ann 97 = { vs := [2, 4] } := by kernel_rfl
@[go_sem] theorem an98 : ann 98 = { vs := [2, 4] } := by kernel_rfl
@[go_sem] theorem an99 : ann 99 = { vs := [1, 2, 3] } := by kernel_rfl
@[go_sem] theorem an100 : ann 100 = { vs := [1, 2, 3] } := by kernel_rfl
@[go_sem] theorem an101 : ann 101 = { vs := [1, 2, 3] } := by kernel_rfl
@[go_sem] theorem an102 : ann 102 = { vs := [4] } := by kernel_rfl
@[go_sem] theorem an103 : ann 103 = { vs := [2, 3] } := by kernel_rfl
@[go_sem] theorem an104 : ann 104 = { vs := [3, 4] } := by kernel_rfl
@[go_sem] theorem an105 : ann 105 = { vs := [2, 4] } := by kernel_rfl
@[go_sem] theorem an106 : ann 106 = { vs := [4, 5], keep := [(0, [(0, .v), (1, .v), (5, .v)])] } := by kernel_rfl
@[go_sem] theorem an107 : ann 107 = { vs := [2] } := by kernel_rfl
@[go_sem] theorem an108 : ann 108 = { vs := [4] } := by kernel_rfl
@[go_sem] theorem an109 : ann 109 = { vs := [2, 3] } := by kernel_rfl
@[go_sem] theorem an110 : ann 110 = { vs := [4] } := by kernel_rfl
@[go_sem] theorem an111 : ann 111 = { vs := [2, 3] } := by kernel_rfl
@[go_sem] theorem an112 : ann 112 = { vs := [4, 5, 6], keep := [(0, [(0, .v), (5, .o 1 true), (6, .v)])], modes := [.l] } := by kernel_rfl
@[go_sem] theorem an113 : ann 113 = { vs := [4, 5, 6, 7], modes := [.l] } := by kernel_rfl
@[go_sem] theorem an114 : ann 114 = { vs := [4] } := by kernel_rfl
@[go_sem] theorem an115 : ann 115 = { vs := [2] } := by kernel_rfl
@[go_sem] theorem an117 : ann 117 = { vs := [4, 5] } := by kernel_rfl
@[go_sem] theorem an118 : ann 118 = { vs := [2] } := by kernel_rfl
@[go_sem] theorem an119 : ann 119 = { vs := [1, 2, 3, 4], keep := [(0, [(1, .v), (2, .v), (3, .v), (4, .v)])] } := by kernel_rfl
@[go_sem] theorem an120 : ann 120 = { vs := [3, 6, 7, 8, 9, 10, 11, 12], keep := [(0, [(1, .v), (2, .v), (3, .v), (6, .v), (7, .v), (8, .v), (9, .v)])] } := by kernel_rfl
@[go_sem] theorem an121 : ann 121 = { vs := [4] } := by kernel_rfl
@[go_sem] theorem an122 : ann 122 = { vs := [2], modes := [.l] } := by kernel_rfl
@[go_sem] theorem an123 : ann 123 = { vs := [4], modes := [.l] } := by kernel_rfl
@[go_sem] theorem an124 : ann 124 = { vs := [3, 4] } := by kernel_rfl
@[go_sem] theorem an125 : ann 125 = { vs := [2] } := by kernel_rfl
@[go_sem] theorem an126 : ann 126 = { vs := [2] } := by kernel_rfl
@[go_sem] theorem an127 : ann 127 = { vs := [3, 4] } := by kernel_rfl
@[go_sem] theorem an128 : ann 128 = { vs := [2, 3] } := by kernel_rfl
@[go_sem] theorem an129 : ann 129 = { vs := [2, 4] } := by kernel_rfl
@[go_sem] theorem an130 : ann 130 = { vs := [2] } := by kernel_rfl
@[go_sem] theorem an131 : ann 131 = { vs := [2] } := by kernel_rfl
@[go_sem] theorem an132 : ann 132 = { vs := [2, 3, 4] } := by kernel_rfl
@[go_sem] theorem an133 : ann 133 = { vs := [3, 7, 8, 9], keep := [(0, [(0, .v), (7, .v), (8, .v), (9, .v)])] } := by kernel_rfl
@[go_sem] theorem an134 : ann 134 = { vs := [6, 7, 8, 9, 10, 14, 15, 16], keep := [(0, [(0, .v), (1, .v), (2, .v), (6, .v), (14, .v), (15, .v), (16, .v)])] } := by kernel_rfl
@[go_sem] theorem an135 : ann 135 = { vs := [2, 3, 4] } := by kernel_rfl
@[go_sem] theorem an136 : ann 136 = { vs := [4] } := by kernel_rfl
@[go_sem] theorem an137 : ann 137 = { vs := [1, 2, 3] } := by kernel_rfl
@[go_sem] theorem an138 : ann 138 = { vs := [2, 3, 4], keep := [(0, [(0, .v), (3, .v), (4, .v)])] } := by kernel_rfl
@[go_sem] theorem an139 : ann 139 = { vs := [4, 5, 7, 8], keep := [(0, [(0, .v), (1, .v), (7, .v), (8, .v)])] } := by kernel_rfl
@[go_sem] theorem an140 : ann 140 = { vs := [4] } := by kernel_rfl
@[go_sem] theorem an141 : ann 141 = { vs := [3] } := by kernel_rfl
@[go_sem] theorem an142 : ann 142 = { vs := [4, 5, 7, 8], keep := [(0, [(0, .v), (1, .v), (7, .v), (8, .v)])] } := by kernel_rfl
@[go_sem] theorem an143 : ann 143 = { vs := [4, 5, 7, 8], keep := [(0, [(0, .v), (1, .v), (7, .v), (8, .v)])] } := by kernel_rfl
@[go_sem] theorem an144 : ann 144 = { vs := [2], modes := [.l] } := by kernel_rfl
@[go_sem] theorem an145 : ann 145 = { vs := [4, 5, 7, 8], keep := [(0, [(0, .v), (1, .v), (7, .v), (8, .v)])] } := by kernel_rfl
@[go_sem] theorem an147 : ann 147 = { vs := [4] } := by kernel_rfl
@[go_sem] theorem an148 : ann 148 = { vs := [4], modes := [.l] } := by kernel_rfl
@[go_sem] theorem an149 : ann 149 = { vs := [4] } := by kernel_rfl
@[go_sem] theorem an150 : ann 150 = { vs := [3] } := by kernel_rfl
@[go_sem] theorem an151 : ann 151 = { vs := [4] } := by kernel_rfl
@[go_sem] theorem an152 : ann 152 = { vs := [2, 3] } := by kernel_rfl
@[go_sem] theorem an153 : ann 153 = { vs := [4, 5, 7, 8], keep := [(0, [(0, .v), (1, .v), (7, .v), (8, .v)])] } := by kernel_rfl
@[go_sem] theorem an156 : ann 156 = { vs := [4, 5, 7, 8], keep := [(0, [(0, .v), (1, .v), (7, .v), (8, .v)])] } := by kernel_rfl
@[go_sem] theorem an157 : ann 157 = { vs := [4, 5, 7, 8], keep := [(0, [(0, .v), (1, .v), (7, .v), (8, .v)])] } := by kernel_rfl
@[go_sem] theorem an0 : ann 0 = {} := by kernel_rfl
@[go_sem] theorem an1 : ann 1 = {} := by kernel_rfl
@[go_sem] theorem an2 : ann 2 = {} := by kernel_rfl
@[go_sem] theorem an116 : ann 116 = {} := by kernel_rfl
@[go_sem] theorem an146 : ann 146 = {} := by kernel_rfl
@[go_sem] theorem an154 : ann 154 = {} := by kernel_rfl
@[go_sem] theorem an155 : ann 155 = {} := by kernel_rfl
@[go_sem] theorem an158 : ann 158 = {} := by kernel_rfl
@[go_sem] theorem an159 : ann 159 = {} := by kernel_rfl
@[go_sem] theorem an160 : ann 160 = {} := by kernel_rfl
@[go_sem] theorem an161 : ann 161 = {} := by kernel_rfl
@[go_sem] theorem an162 : ann 162 = {} := by kernel_rfl
@[go_sem] theorem an163 : ann 163 = {} := by kernel_rfl
@[go_sem] theorem an164 : ann 164 = {} := by kernel_rfl
@[go_sem] theorem an165 : ann 165 = {} := by kernel_rfl
@[go_sem] theorem an166 : ann 166 = {} := by kernel_rfl
@[go_sem] theorem an167 : ann 167 = {} := by kernel_rfl
@[go_sem] theorem an168 : ann 168 = {} := by kernel_rfl
@[go_sem] theorem an169 : ann 169 = {} := by kernel_rfl
@[go_sem] theorem an170 : ann 170 = {} := by kernel_rfl
@[go_sem] theorem an171 : ann 171 = {} := by kernel_rfl
@[go_sem] theorem an172 : ann 172 = {} := by kernel_rfl
@[go_sem] theorem an173 : ann 173 = {} := by kernel_rfl
@[go_sem] theorem an174 : ann 174 = {} := by kernel_rfl
@[go_sem] theorem an175 : ann 175 = {} := by kernel_rfl
@[go_sem] theorem re2 : Go.Proofs.Try.f2.results.toList = [] := rfl
@[go_sem] theorem re3 : Go.Proofs.Try.f3.results.toList = [.tmp 2] := rfl
@[go_sem] theorem re4 : Go.Proofs.Try.f4.results.toList = [.tmp 2] := rfl
@[go_sem] theorem re5 : Go.Proofs.Try.f5.results.toList = [.tmp 2] := rfl
@[go_sem] theorem re6 : Go.Proofs.Try.f6.results.toList = [.tmp 4] := rfl
@[go_sem] theorem re7 : Go.Proofs.Try.f7.results.toList = [.tmp 4] := rfl
@[go_sem] theorem re8 : Go.Proofs.Try.f8.results.toList = [.tmp 4] := rfl
@[go_sem] theorem re9 : Go.Proofs.Try.f9.results.toList = [.cell 2 26, .tmp 3] := rfl
@[go_sem] theorem re10 : Go.Proofs.Try.f10.results.toList = [.cell 2 26, .tmp 3] := rfl
@[go_sem] theorem re11 : Go.Proofs.Try.f11.results.toList = [.tmp 4] := rfl
@[go_sem] theorem re12 : Go.Proofs.Try.f12.results.toList = [.tmp 4] := rfl
@[go_sem] theorem re13 : Go.Proofs.Try.f13.results.toList = [.tmp 4] := rfl
@[go_sem] theorem re14 : Go.Proofs.Try.f14.results.toList = [.tmp 4] := rfl
@[go_sem] theorem re15 : Go.Proofs.Try.f15.results.toList = [.tmp 2] := rfl
@[go_sem] theorem re16 : Go.Proofs.Try.f16.results.toList = [.cell 2 26] := rfl
@[go_sem] theorem re17 : Go.Proofs.Try.f17.results.toList = [.tmp 2] := rfl
@[go_sem] theorem re18 : Go.Proofs.Try.f18.results.toList = [.tmp 2, .tmp 3] := rfl
@[go_sem] theorem re19 : Go.Proofs.Try.f19.results.toList = [.tmp 2, .tmp 3] := rfl
@[go_sem] theorem re20 : Go.Proofs.Try.f20.results.toList = [.tmp 4, .tmp 5] := rfl
@[go_sem] theorem re21 : Go.Proofs.Try.f21.results.toList = [.tmp 4, .tmp 5] := rfl
@[go_sem] theorem re22 : Go.Proofs.Try.f22.results.toList = [.tmp 4] := rfl
@[go_sem] theorem re23 : Go.Proofs.Try.f23.results.toList = [.tmp 4] := rfl
@[go_sem] theorem re24 : Go.Proofs.Try.f24.results.toList = [.tmp 4] := rfl
@[go_sem] theorem re25 : Go.Proofs.Try.f25.results.toList = [.tmp 2] := rfl
@[go_sem] theorem re26 : Go.Proofs.Try.f26.results.toList = [.tmp 2, .tmp 3] := rfl
@[go_sem] theorem re27 : Go.Proofs.Try.f27.results.toList = [.tmp 2, .tmp 3] := rfl
@[go_sem] theorem re28 : Go.Proofs.Try.f28.results.toList = [.tmp 2, .tmp 3] := rfl
@[go_sem] theorem re29 : Go.Proofs.Try.f29.results.toList = [.tmp 2, .tmp 3] := rfl
@[go_sem] theorem re30 : Go.Proofs.Try.f30.results.toList = [.tmp 4, .tmp 5] := rfl
@[go_sem] theorem re31 : Go.Proofs.Try.f31.results.toList = [.tmp 4, .tmp 5] := rfl
@[go_sem] theorem re32 : Go.Proofs.Try.f32.results.toList = [.tmp 4] := rfl
@[go_sem] theorem re33 : Go.Proofs.Try.f33.results.toList = [.tmp 4] := rfl
@[go_sem] theorem re34 : Go.Proofs.Try.f34.results.toList = [.tmp 4] := rfl
@[go_sem] theorem re35 : Go.Proofs.Try.f35.results.toList = [.cell 4 64, .tmp 5, .tmp 6] := rfl
@[go_sem] theorem re36 : Go.Proofs.Try.f36.results.toList = [.tmp 4] := rfl
@[go_sem] theorem re37 : Go.Proofs.Try.f37.results.toList = [.tmp 4] := rfl
@[go_sem] theorem re38 : Go.Proofs.Try.f38.results.toList = [.tmp 6] := rfl
@[go_sem] theorem re39 : Go.Proofs.Try.f39.results.toList = [.cell 4 64, .tmp 5] := rfl
@[go_sem] theorem re40 : Go.Proofs.Try.f40.results.toList = [.cell 4 64, .tmp 5] := rfl
@[go_sem] theorem re41 : Go.Proofs.Try.f41.results.toList = [.tmp 6] := rfl
@[go_sem] theorem re42 : Go.Proofs.Try.f42.results.toList = [.cell 2 26] := rfl
@[go_sem] theorem re43 : Go.Proofs.Try.f43.results.toList = [.tmp 2] := rfl
@[go_sem] theorem re44 : Go.Proofs.Try.f44.results.toList = [.tmp 4] := rfl
@[go_sem] theorem re45 : Go.Proofs.Try.f45.results.toList = [.tmp 4] := rfl
@[go_sem] theorem re46 : Go.Proofs.Try.f46.results.toList = [.tmp 4] := rfl
@[go_sem] theorem re47 : Go.Proofs.Try.f47.results.toList = [.tmp 4] := rfl
@[go_sem] theorem re48 : Go.Proofs.Try.f48.results.toList = [.tmp 4] := rfl
@[go_sem] theorem re49 : Go.Proofs.Try.f49.results.toList = [.tmp 4] := rfl
@[go_sem] theorem re50 : Go.Proofs.Try.f50.results.toList = [.tmp 4] := rfl
@[go_sem] theorem re51 : Go.Proofs.Try.f51.results.toList = [.tmp 4] := rfl
@[go_sem] theorem re52 : Go.Proofs.Try.f52.results.toList = [.tmp 4] := rfl
@[go_sem] theorem re53 : Go.Proofs.Try.f53.results.toList = [.tmp 4] := rfl
@[go_sem] theorem re54 : Go.Proofs.Try.f54.results.toList = [.tmp 4] := rfl
@[go_sem] theorem re55 : Go.Proofs.Try.f55.results.toList = [.tmp 4] := rfl
@[go_sem] theorem re56 : Go.Proofs.Try.f56.results.toList = [.tmp 2] := rfl
@[go_sem] theorem re57 : Go.Proofs.Try.f57.results.toList = [.tmp 4] := rfl
@[go_sem] theorem re58 : Go.Proofs.Try.f58.results.toList = [.tmp 2] := rfl
@[go_sem] theorem re59 : Go.Proofs.Try.f59.results.toList = [.tmp 2] := rfl
@[go_sem] theorem re60 : Go.Proofs.Try.f60.results.toList = [.tmp 2] := rfl
@[go_sem] theorem re61 : Go.Proofs.Try.f61.results.toList = [.tmp 6] := rfl
@[go_sem] theorem re62 : Go.Proofs.Try.f62.results.toList = [.tmp 6] := rfl
@[go_sem] theorem re63 : Go.Proofs.Try.f63.results.toList = [.tmp 4] := rfl
@[go_sem] theorem re64 : Go.Proofs.Try.f64.results.toList = [.tmp 3] := rfl
@[go_sem] theorem re65 : Go.Proofs.Try.f65.results.toList = [.tmp 2] := rfl
@[go_sem] theorem re66 : Go.Proofs.Try.f66.results.toList = [.tmp 4] := rfl
@[go_sem] theorem re67 : Go.Proofs.Try.f67.results.toList = [.tmp 4] := rfl
@[go_sem] theorem re68 : Go.Proofs.Try.f68.results.toList = [.tmp 3] := rfl
@[go_sem] theorem re69 : Go.Proofs.Try.f69.results.toList = [.tmp 6] := rfl
@[go_sem] theorem re70 : Go.Proofs.Try.f70.results.toList = [.tmp 3] := rfl
@[go_sem] theorem re71 : Go.Proofs.Try.f71.results.toList = [.tmp 4] := rfl
@[go_sem] theorem re72 : Go.Proofs.Try.f72.results.toList = [.tmp 3] := rfl
@[go_sem] theorem re73 : Go.Proofs.Try.f73.results.toList = [.tmp 2] := rfl
@[go_sem] theorem re74 : Go.Proofs.Try.f74.results.toList = [.tmp 2] := rfl
@[go_sem] theorem re75 : Go.Proofs.Try.f75.results.toList = [.tmp 2] := rfl
@[go_sem] theorem re76 : Go.Proofs.Try.f76.results.toList = [.tmp 2] := rfl
@[go_sem] theorem re77 : Go.Proofs.Try.f77.results.toList = [.tmp 2] := rfl
@[go_sem] theorem re78 : Go.Proofs.Try.f78.results.toList = [.tmp 2] := rfl
@[go_sem] theorem re79 : Go.Proofs.Try.f79.results.toList = [.tmp 2] := rfl
@[go_sem] theorem re80 : Go.Proofs.Try.f80.results.toList = [.tmp 4] := rfl
@[go_sem] theorem re81 : Go.Proofs.Try.f81.results.toList = [.tmp 2] := rfl
@[go_sem] theorem re82 : Go.Proofs.Try.f82.results.toList = [.tmp 2] := rfl
@[go_sem] theorem re83 : Go.Proofs.Try.f83.results.toList = [.tmp 4] := rfl
@[go_sem] theorem re84 : Go.Proofs.Try.f84.results.toList = [.cell 2 64, .tmp 3] := rfl
@[go_sem] theorem re85 : Go.Proofs.Try.f85.results.toList = [.cell 4 64, .tmp 5] := rfl
@[go_sem] theorem re86 : Go.Proofs.Try.f86.results.toList = [.cell 2 64] := rfl
@[go_sem] theorem re87 : Go.Proofs.Try.f87.results.toList = [.tmp 4] := rfl
@[go_sem] theorem re88 : Go.Proofs.Try.f88.results.toList = [.tmp 4] := rfl
@[go_sem] theorem re89 : Go.Proofs.Try.f89.results.toList = [.tmp 2] := rfl
@[go_sem] theorem re90 : Go.Proofs.Try.f90.results.toList = [.cell 2 64] := rfl
@[go_sem] theorem re91 : Go.Proofs.Try.f91.results.toList = [.tmp 4] := rfl
@[go_sem] theorem re92 : Go.Proofs.Try.f92.results.toList = [.tmp 2] := rfl
@[go_sem] theorem re93 : Go.Proofs.Try.f93.results.toList = [.tmp 4] := rfl
@[go_sem] theorem re94 : Go.Proofs.Try.f94.results.toList = [.tmp 4] := rfl
@[go_sem] theorem re95 : Go.Proofs.Try.f95.results.toList = [.tmp 4] := rfl
@[go_sem] theorem re96 : Go.Proofs.Try.f96.results.toList = [.tmp 4] := rfl
@[go_sem] theorem re97 : Go.Proofs.Try.f97.results.toList = [.tmp 4] := rfl
@[go_sem] theorem re98 : Go.Proofs.Try.f98.results.toList = [.tmp 4] := rfl
@[go_sem] theorem re99 : Go.Proofs.Try.f99.results.toList = [.cell 2 92] := rfl
@[go_sem] theorem re100 : Go.Proofs.Try.f100.results.toList = [.cell 2 95] := rfl
@[go_sem] theorem re101 : Go.Proofs.Try.f101.results.toList = [.cell 2 97] := rfl
@[go_sem] theorem re102 : Go.Proofs.Try.f102.results.toList = [.tmp 4] := rfl
@[go_sem] theorem re103 : Go.Proofs.Try.f103.results.toList = [.tmp 3] := rfl
@[go_sem] theorem re104 : Go.Proofs.Try.f104.results.toList = [.tmp 4] := rfl
@[go_sem] theorem re105 : Go.Proofs.Try.f105.results.toList = [.tmp 4] := rfl
@[go_sem] theorem re106 : Go.Proofs.Try.f106.results.toList = [.tmp 4] := rfl
@[go_sem] theorem re107 : Go.Proofs.Try.f107.results.toList = [.tmp 2] := rfl
@[go_sem] theorem re108 : Go.Proofs.Try.f108.results.toList = [.tmp 4] := rfl
@[go_sem] theorem re109 : Go.Proofs.Try.f109.results.toList = [.tmp 3] := rfl
@[go_sem] theorem re110 : Go.Proofs.Try.f110.results.toList = [.tmp 4] := rfl
@[go_sem] theorem re111 : Go.Proofs.Try.f111.results.toList = [.tmp 3] := rfl
@[go_sem] theorem re112 : Go.Proofs.Try.f112.results.toList = [.tmp 4] := rfl
@[go_sem] theorem re113 : Go.Proofs.Try.f113.results.toList = [.tmp 4] := rfl
@[go_sem] theorem re114 : Go.Proofs.Try.f114.results.toList = [.tmp 4] := rfl
@[go_sem] theorem re115 : Go.Proofs.Try.f115.results.toList = [.tmp 2] := rfl
@[go_sem] theorem re116 : Go.Proofs.Try.f116.results.toList = [] := rfl
@[go_sem] theorem re117 : Go.Proofs.Try.f117.results.toList = [.tmp 4, .tmp 5] := rfl
@[go_sem] theorem re118 : Go.Proofs.Try.f118.results.toList = [.tmp 2] := rfl
@[go_sem] theorem re119 : Go.Proofs.Try.f119.results.toList = [.cell 2 64] := rfl
@[go_sem] theorem re120 : Go.Proofs.Try.f120.results.toList = [.cell 6 64] := rfl
@[go_sem] theorem re121 : Go.Proofs.Try.f121.results.toList = [.tmp 4] := rfl
@[go_sem] theorem re122 : Go.Proofs.Try.f122.results.toList = [.tmp 2] := rfl
@[go_sem] theorem re123 : Go.Proofs.Try.f123.results.toList = [.tmp 4] := rfl
@[go_sem] theorem re124 : Go.Proofs.Try.f124.results.toList = [.tmp 4] := rfl
@[go_sem] theorem re125 : Go.Proofs.Try.f125.results.toList = [.tmp 2] := rfl
@[go_sem] theorem re126 : Go.Proofs.Try.f126.results.toList = [.tmp 2] := rfl
@[go_sem] theorem re127 : Go.Proofs.Try.f127.results.toList = [.tmp 4] := rfl
@[go_sem] theorem re128 : Go.Proofs.Try.f128.results.toList = [.tmp 3] := rfl
@[go_sem] theorem re129 : Go.Proofs.Try.f129.results.toList = [.tmp 4] := rfl
@[go_sem] theorem re130 : Go.Proofs.Try.f130.results.toList = [.tmp 2] := rfl
@[go_sem] theorem re131 : Go.Proofs.Try.f131.results.toList = [.tmp 2] := rfl
@[go_sem] theorem re132 : Go.Proofs.Try.f132.results.toList = [.tmp 4] := rfl
@[go_sem] theorem re133 : Go.Proofs.Try.f133.results.toList = [] := rfl
@[go_sem] theorem re134 : Go.Proofs.Try.f134.results.toList = [] := rfl
@[go_sem] theorem re135 : Go.Proofs.Try.f135.results.toList = [.tmp 4] := rfl
@[go_sem] theorem re136 : Go.Proofs.Try.f136.results.toList = [.tmp 4] := rfl
@[go_sem] theorem re137 : Go.Proofs.Try.f137.results.toList = [.cell 2 90] := rfl
@[go_sem] theorem re138 : Go.Proofs.Try.f138.results.toList = [.tmp 2] := rfl
@[go_sem] theorem re139 : Go.Proofs.Try.f139.results.toList = [.tmp 4] := rfl
@[go_sem] theorem re140 : Go.Proofs.Try.f140.results.toList = [.tmp 4] := rfl
@[go_sem] theorem re141 : Go.Proofs.Try.f141.results.toList = [.tmp 3] := rfl
@[go_sem] theorem re142 : Go.Proofs.Try.f142.results.toList = [.tmp 4] := rfl
@[go_sem] theorem re143 : Go.Proofs.Try.f143.results.toList = [.tmp 4] := rfl
@[go_sem] theorem re144 : Go.Proofs.Try.f144.results.toList = [.tmp 2] := rfl
@[go_sem] theorem re145 : Go.Proofs.Try.f145.results.toList = [.tmp 4] := rfl
@[go_sem] theorem re146 : Go.Proofs.Try.f146.results.toList = [] := rfl
@[go_sem] theorem re147 : Go.Proofs.Try.f147.results.toList = [] := rfl
@[go_sem] theorem re148 : Go.Proofs.Try.f148.results.toList = [.tmp 4] := rfl
@[go_sem] theorem re149 : Go.Proofs.Try.f149.results.toList = [.tmp 4] := rfl
@[go_sem] theorem re150 : Go.Proofs.Try.f150.results.toList = [.tmp 3] := rfl
@[go_sem] theorem re151 : Go.Proofs.Try.f151.results.toList = [.tmp 4] := rfl
@[go_sem] theorem re152 : Go.Proofs.Try.f152.results.toList = [.tmp 3] := rfl
@[go_sem] theorem re153 : Go.Proofs.Try.f153.results.toList = [.tmp 4] := rfl
@[go_sem] theorem re156 : Go.Proofs.Try.f156.results.toList = [.tmp 4] := rfl
@[go_sem] theorem re157 : Go.Proofs.Try.f157.results.toList = [.tmp 4] := rfl
end Go.Proofs.Ytinahpfjlamlnaa.Ev
