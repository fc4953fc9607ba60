/- Annotations of the functions, and facts of types, by gen.py. No condition. -/
import Derived.Test.YtdbfmcgdmnbabaaEvStep
import Derived.Test.YtdbfmcgdmnbabaaEvCore
import Derived.Test.YtdbfmcgdmnbabaaProg
namespace Go.Proofs.Ytdbfmcgdmnbabaa.Ev
open Go
def annL : List (Nat × Ann) := [
  (3, { vs := [8, 9, 10, 11, 12] }),
  (4, { vs := [6, 7, 8, 9, 10] }),
  (5, { vs := [6, 7, 8, 9, 10] }),
  (6, { vs := [4, 8, 9, 10, 11, 12, 13, 14] }),
  (7, { vs := [2, 3, 4, 5, 6, 7, 8] }),
  (8, { vs := [4, 5, 6, 7, 8, 9, 10, 11, 12, 13, 14, 15] }),
  (9, { vs := [4, 5, 6, 7, 8, 9, 11, 12, 13, 15, 16, 17, 18, 19, 20, 21, 22, 23, 24, 25, 26] }),
  (10, { vs := [8, 9, 10, 11, 12] }),
  (11, { vs := [8, 9, 10, 11, 12] }),
  (12, { vs := [8, 9] }),
  (13, { vs := [8, 9] }),
  (14, { vs := [6, 7] }),
  (15, { vs := [6, 7] }),
  (16, { vs := [6, 7] }),
  (17, { vs := [6, 7] }),
  (18, { vs := [2, 4] }),
  (19, { vs := [4, 5], keep := [(0, [(0, .v), (1, .v), (5, .v)])] }),
  (20, { vs := [4, 8, 9, 10, 11, 12], keep := [(0, [(1, .v), (2, .v), (3, .v), (4, .v), (10, .v)])] }),
  (21, { vs := [1, 2, 3] }),
  (22, { vs := [2, 3, 4], keep := [(0, [(0, .v), (3, .v), (4, .v)])] }),
  (23, { vs := [4, 8, 9, 10, 11] }),
  (24, { vs := [4, 5], keep := [(0, [(0, .v), (1, .v), (5, .v)])] }),
  (25, { vs := [4, 5], keep := [(0, [(0, .v), (1, .v), (5, .v)])] }),
  (26, { vs := [2, 3] }),
  (27, { vs := [2, 3, 4], keep := [(0, [(0, .v), (3, .v), (4, .v)])] }),
  (28, { vs := [2, 3, 4] }),
  (29, { vs := [4, 5], keep := [(0, [(0, .v), (1, .v), (5, .v)])] }),
  (30, { vs := [4, 5] }),
  (31, { vs := [4, 5, 6] }),
  (32, { vs := [4, 5], keep := [(0, [(0, .v), (1, .v), (5, .v)])], modes := [.l] }),
  (33, { vs := [4, 5], keep := [(0, [(0, .v), (1, .v), (5, .v)])], modes := [.l] }),
  (34, { vs := [4, 5], keep := [(0, [(0, .v), (1, .v), (5, .v)])] }),
  (35, { vs := [2] }),
  (36, { vs := [2] }),
  (37, { vs := [6] }),
  (38, { vs := [4, 5], keep := [(0, [(0, .v), (1, .v), (5, .v)])] }),
  (39, { vs := [2] }),
  (40, { vs := [2] }),
  (41, { vs := [5, 6, 7, 8, 9] }),
  (42, { vs := [8, 9, 10] }),
  (43, { vs := [8, 9, 10] }),
  (44, { vs := [8, 9, 10, 11, 12] }),
  (45, { vs := [8, 9, 10, 11, 12] }),
  (46, { vs := [6] }),
  (47, { vs := [8] }),
  (48, { vs := [2] }),
  (49, { vs := [2] }),
  (50, { vs := [2] }),
  (51, { vs := [4] }),
  (52, { vs := [4, 5, 6], keep := [(0, [(0, .v), (5, .v), (6, .v)])] }),
  (53, { vs := [6] }),
  (54, { vs := [2] }),
  (55, { vs := [6] }),
  (56, { vs := [6] }),
  (57, { vs := [6] }),
  (58, { vs := [2] }),
  (59, { vs := [6] }),
  (60, { vs := [1, 2] }),
  (61, { vs := [8, 9, 10, 11, 12, 13, 14, 15, 16] }),
  (62, { vs := [1, 2] }),
  (63, { vs := [2] }),
  (64, { vs := [1, 2] }),
  (65, { vs := [3, 4] }),
  (66, { vs := [2] }),
  (67, { vs := [4, 8, 9, 10, 11, 12, 13, 14, 15] }),
  (68, { vs := [2, 3], keep := [(0, [(0, .v), (3, .v)])] }),
  (69, { vs := [2, 3, 5] }),
  (70, { vs := [2] }),
  (71, { vs := [2, 3, 5] }),
  (72, { vs := [2, 3, 4] }),
  (73, { vs := [4, 5] }),
  (74, { vs := [4, 5] }),
  (75, { vs := [2, 3], keep := [(0, [(0, .v), (3, .v)])] }),
  (76, { vs := [2] }),
  (77, { vs := [2, 3, 4], keep := [(0, [(0, .v), (3, .o 2 true), (4, .v)])], modes := [.l] }),
  (78, { vs := [2], modes := [.l] }),
  (79, { vs := [3, 4] }),
  (80, { vs := [2, 3, 4, 5, 6, 7, 8, 9], keep := [(0, [(0, .v), (3, .v), (4, .o 1 true)]), (2, [(0, .v), (3, .v), (4, .o 1 true), (5, .v)]), (4, [(3, .v), (4, .v), (6, .v), (7, .v)]), (6, [(3, .v), (8, .o 1 true), (9, .v)])] }),
  (81, { vs := [2] }),
  (82, { vs := [6] }),
  (83, { vs := [8] }),
  (84, { vs := [6] }),
  (85, { vs := [2] }),
  (86, { vs := [8] }),
  (87, { vs := [8, 9, 10, 11] }),
  (88, { vs := [8, 9, 10, 11] }),
  (89, { vs := [4, 5, 6, 7, 8], keep := [(0, [(0, .v), (1, .v), (5, .v), (6, .v), (7, .v)])] }),
  (90, { vs := [2] }),
  (91, { vs := [4] }),
  (92, { vs := [2] }),
  (93, { vs := [2, 3, 4, 5, 6, 7, 9, 38, 39], keep := [(0, [(0, .v), (3, .o 1 true), (6, .v)]), (4, [(7, .v), (38, .v), (39, .v)])] }),
  (94, { vs := [4, 5, 6, 12, 13], keep := [(0, [(1, .v), (5, .v), (12, .v), (13, .v)])] }),
  (95, { vs := [4] }),
  (96, { vs := [3] }),
  (97, { vs := [1, 2] }),
  (98, { vs := [4] }),
  (99, { vs := [2] }),
  (100, { vs := [4, 5, 6, 7], modes := [.l] }),
  (101, { vs := [2], modes := [.l] }),
  (102, { vs := [4] }),
  (103, { vs := [2, 3] }),
  (104, { vs := [0] }),
  (105, { vs := [6, 7, 8, 9, 10, 11, 12, 13, 14, 15, 16, 17], keep := [(0, [(0, .v), (1, .v), (2, .v), (6, .v), (7, .v)]), (2, [(0, .v), (2, .v), (6, .v), (8, .v)]), (4, [(0, .v), (2, .v), (6, .v), (11, .o 1 true), (12, .v)]), (6, [(0, .v), (11, .v), (17, .v)])], modes := [.l] }),
  (106, { vs := [8, 9, 10, 11] }),
  (107, { vs := [4] }),
  (108, { vs := [2] }),
  (109, { vs := [8, 9, 10, 11] }),
  (110, { vs := [4] }),
  (111, { vs := [8, 9, 10, 11, 12] }),
  (112, { vs := [8, 9, 10, 11, 12] }),
  (113, { vs := [4, 5, 7, 8], keep := [(0, [(0, .v), (1, .v), (7, .v), (8, .v)])] }),
  (114, { vs := [0] }),
  (115, { vs := [2, 3, 4] }),
  (116, { vs := [3, 4, 5, 6, 7, 8, 9, 10, 11, 12, 13, 15, 95], keep := [(0, [(3, .v), (4, .v), (5, .v), (6, .v), (7, .v), (15, .v)]), (2, [(3, .v), (6, .v), (7, .v), (95, .v)])] }),
  (117, { vs := [2, 3, 4, 6, 7, 8, 9, 10, 11, 22, 23, 24], keep := [(0, [(0, .v), (2, .v), (3, .v), (11, .v)]), (2, [(0, .v), (2, .v), (3, .v), (4, .v), (11, .v), (22, .v), (23, .v), (24, .v)])] }),
  (118, { vs := [2], modes := [.l] }),
  (119, { vs := [4, 5, 7, 8], keep := [(0, [(0, .v), (1, .v), (7, .v), (8, .v)])] }),
  (120, { vs := [4] }),
  (121, { vs := [2, 3, 4] }),
  (122, { vs := [6, 7, 8, 9, 10, 11, 12], keep := [(0, [(1, .v), (7, .v), (8, .v), (9, .v), (10, .v)]), (2, [(1, .v), (7, .v), (8, .v), (9, .v), (10, .v), (11, .v), (12, .v)])] }),
  (123, { vs := [8, 9] }),
  (124, { vs := [2, 3, 4] }),
  (125, { vs := [6, 7, 8, 9, 10, 11], keep := [(0, [(1, .v), (7, .v), (8, .v), (9, .v)]), (2, [(1, .v), (7, .v), (8, .v), (9, .v), (10, .v), (11, .v)])] }),
  (126, { vs := [8] }),
  (127, { vs := [4, 5], keep := [(0, [(0, .v), (1, .v), (2, .v), (4, .v)])] }),
  (128, { vs := [4] }),
  (129, { vs := [6, 7, 8, 9], keep := [(0, [(0, .v), (1, .v), (2, .v), (7, .v), (8, .v), (9, .v)])] }),
  (130, { vs := [0, 1, 2, 3, 4, 5], keep := [(0, [(1, .v), (2, .v), (3, .v)]), (2, [(1, .v), (4, .v), (5, .v)])] }),
  (131, { vs := [4, 5, 6, 7, 8, 9, 10, 11, 12, 13, 14], keep := [(0, [(0, .v), (1, .v), (5, .v), (6, .o 1 true), (7, .v)]), (2, [(1, .v), (5, .v), (6, .o 1 true), (8, .v), (9, .v)]), (4, [(1, .v), (5, .v), (6, .v), (8, .v), (9, .v), (10, .v), (11, .v)]), (6, [(1, .v), (5, .v), (6, .v), (8, .v), (9, .v), (10, .v), (12, .v)]), (8, [(6, .v), (13, .o 1 true), (14, .v)])] }),
  (132, { vs := [6, 7, 8], keep := [(0, [(0, .v), (1, .v), (7, .o 1 true), (8, .v)])] }),
  (133, { vs := [6, 7, 8, 9], keep := [(0, [(0, .v), (1, .v), (2, .v), (7, .v), (8, .v), (9, .v)])] }),
  (134, { vs := [2, 3, 4, 5, 6, 7, 8, 9, 10, 11, 12, 13, 14, 17, 45, 46, 142, 170], keep := [(0, [(0, .v), (3, .v), (17, .v)]), (2, [(0, .v), (3, .v), (6, .v), (7, .v), (8, .v), (45, .v), (46, .v)]), (5, [(0, .v), (3, .v), (6, .v), (7, .v), (8, .v), (9, .v), (10, .v), (45, .v), (46, .v), (142, .v)]), (7, [(3, .v), (7, .v), (12, .v)]), (9, [(3, .v), (7, .v), (12, .v), (13, .v), (170, .v)]), (1000037, [])] }),
  (135, { vs := [2] }),
  (136, { vs := [3, 4, 5, 6, 7, 8, 9, 29], keep := [(0, [(0, .v), (3, .v), (4, .v), (5, .v), (6, .v)]), (2, [(0, .v), (3, .v), (4, .v), (5, .v), (6, .v), (7, .v), (29, .v)])] }),
  (137, { vs := [4, 5] }),
  (138, { vs := [2] }),
  (139, { vs := [2, 3, 4], keep := [(0, [(0, .v), (3, .v), (4, .v)])] }),
  (140, { vs := [4, 5, 6], keep := [(0, [(0, .v), (1, .v), (5, .v), (6, .v)])] }),
  (141, { vs := [2, 3, 4], keep := [(0, [(0, .v), (3, .o 1 true), (4, .v)])] }),
  (142, { vs := [4], keep := [(0, [(0, .v), (1, .v), (4, .v)])] }),
  (143, { vs := [4], keep := [(0, [(0, .v), (1, .v), (4, .v)])] }),
  (144, { vs := [4, 5, 6, 7], keep := [(0, [(0, .v), (1, .v), (5, .v), (6, .v)]), (2, [(0, .v), (1, .v), (5, .v), (6, .v), (7, .v)])] }),
  (145, { vs := [2, 3, 4, 5, 6], keep := [(0, [(0, .v), (3, .v), (4, .v)]), (2, [(0, .v), (3, .v), (4, .v), (5, .v), (6, .v)])] }),
  (146, { vs := [2, 3, 4], keep := [(0, [(0, .v), (3, .o 1 true), (4, .v)])] }),
  (147, { vs := [2, 3] }),
  (148, { vs := [4, 5, 6], keep := [(0, [(1, .v), (5, .v), (6, .v)])] }),
  (149, { vs := [2, 3, 4, 5, 6], keep := [(0, [(2, .v), (3, .v), (4, .v), (6, .v)])] }),
  (150, { vs := [2, 4, 5, 6], keep := [(0, [(1, .v), (2, .v), (4, .v), (5, .v)])] }),
  (151, { vs := [1, 2, 3, 4, 5, 17], keep := [(0, [(1, .v), (2, .v), (3, .v), (4, .v), (17, .v)])] }),
  (152, { vs := [2, 3, 4, 6], keep := [(0, [(3, .v), (4, .v), (6, .v)])] }),
  (153, { vs := [4, 5] }),
  (154, { vs := [2] })]
def annOf : List (Nat × Ann) → Nat → Ann
  | [], _ => {}
  | (k, a) :: l, f => if k = f then a else annOf l f
def ann (f : FuncId) : Ann := annOf annL f
@[go_sem] theorem ty3 : tyOf Go.Proofs.Try.prog 3 = .int .i64 := by kernel_rfl
@[go_sem] theorem sz3 : szOf Go.Proofs.Try.prog 3 = 1 := by kernel_rfl
@[go_sem] theorem by3 : byOf Go.Proofs.Try.prog 3 = 8 := by kernel_rfl
@[go_sem] theorem kn3 : known Go.Proofs.Try.prog 3 = true := by kernel_rfl
@[go_sem] theorem zk3 : zeroOk Go.Proofs.Try.prog 3 = true := by kernel_rfl
@[go_sem] theorem ze3 : zeOf Go.Proofs.Try.prog 3 = .int .i64 0 := by kernel_rfl
@[go_sem] theorem ty4 : tyOf Go.Proofs.Try.prog 4 = .bool := by kernel_rfl
@[go_sem] theorem sz4 : szOf Go.Proofs.Try.prog 4 = 1 := by kernel_rfl
@[go_sem] theorem by4 : byOf Go.Proofs.Try.prog 4 = 1 := by kernel_rfl
@[go_sem] theorem kn4 : known Go.Proofs.Try.prog 4 = true := by kernel_rfl
@[go_sem] theorem zk4 : zeroOk Go.Proofs.Try.prog 4 = true := by kernel_rfl
@[go_sem] theorem ze4 : zeOf Go.Proofs.Try.prog 4 = .bool false := by kernel_rfl
@[go_sem] theorem ty5 : tyOf Go.Proofs.Try.prog 5 = .int .u8 := by kernel_rfl
@[go_sem] theorem sz5 : szOf Go.Proofs.Try.prog 5 = 1 := by kernel_rfl
@[go_sem] theorem by5 : byOf Go.Proofs.Try.prog 5 = 1 := by kernel_rfl
@[go_sem] theorem kn5 : known Go.Proofs.Try.prog 5 = true := by kernel_rfl
@[go_sem] theorem zk5 : zeroOk Go.Proofs.Try.prog 5 = true := by kernel_rfl
@[go_sem] theorem ze5 : zeOf Go.Proofs.Try.prog 5 = .int .u8 0 := by kernel_rfl
@[go_sem] theorem ty9 : tyOf Go.Proofs.Try.prog 9 = .str := by kernel_rfl
@[go_sem] theorem sz9 : szOf Go.Proofs.Try.prog 9 = 1 := by kernel_rfl
@[go_sem] theorem by9 : byOf Go.Proofs.Try.prog 9 = 16 := by kernel_rfl
@[go_sem] theorem kn9 : known Go.Proofs.Try.prog 9 = true := by kernel_rfl
@[go_sem] theorem zk9 : zeroOk Go.Proofs.Try.prog 9 = true := by kernel_rfl
@[go_sem] theorem ze9 : zeOf Go.Proofs.Try.prog 9 = .str [] := by kernel_rfl
@[go_sem] theorem ty30 : tyOf Go.Proofs.Try.prog 30 = .strct [(0, 3), (1, 9)] := by kernel_rfl
@[go_sem] theorem sz30 : szOf Go.Proofs.Try.prog 30 = 2 := by kernel_rfl
@[go_sem] theorem by30 : byOf Go.Proofs.Try.prog 30 = 24 := by kernel_rfl
@[go_sem] theorem kn30 : known Go.Proofs.Try.prog 30 = true := by kernel_rfl
@[go_sem] theorem zk30 : zeroOk Go.Proofs.Try.prog 30 = true := by kernel_rfl
@[go_sem] theorem ze30 : zeOf Go.Proofs.Try.prog 30 = .agg [.int .i64 0, .str []] := by kernel_rfl
@[go_sem] theorem fl30_0 : fldOf Go.Proofs.Try.prog 30 0 = some (0, 1, false) := by kernel_rfl
@[go_sem] theorem fl30_1 : fldOf Go.Proofs.Try.prog 30 1 = some (1, 1, false) := by kernel_rfl
@[go_sem] theorem ft30 : flatTy Go.Proofs.Try.prog 30 = true := by kernel_rfl
@[go_sem] theorem ty31 : tyOf Go.Proofs.Try.prog 31 = .slice 9 := by kernel_rfl
@[go_sem] theorem sz31 : szOf Go.Proofs.Try.prog 31 = 1 := by kernel_rfl
@[go_sem] theorem by31 : byOf Go.Proofs.Try.prog 31 = 24 := by kernel_rfl
@[go_sem] theorem kn31 : known Go.Proofs.Try.prog 31 = true := by kernel_rfl
@[go_sem] theorem zk31 : zeroOk Go.Proofs.Try.prog 31 = true := by kernel_rfl
@[go_sem] theorem ze31 : zeOf Go.Proofs.Try.prog 31 = .nils := by kernel_rfl
@[go_sem] theorem ty35 : tyOf Go.Proofs.Try.prog 35 = .strct [(0, 3), (1, 9)] := by kernel_rfl
@[go_sem] theorem sz35 : szOf Go.Proofs.Try.prog 35 = 2 := by kernel_rfl
@[go_sem] theorem by35 : byOf Go.Proofs.Try.prog 35 = 24 := by kernel_rfl
@[go_sem] theorem kn35 : known Go.Proofs.Try.prog 35 = true := by kernel_rfl
@[go_sem] theorem zk35 : zeroOk Go.Proofs.Try.prog 35 = true := by kernel_rfl
@[go_sem] theorem ze35 : zeOf Go.Proofs.Try.prog 35 = .agg [.int .i64 0, .str []] := by kernel_rfl
@[go_sem] theorem fl35_0 : fldOf Go.Proofs.Try.prog 35 0 = some (0, 1, false) := by kernel_rfl
@[go_sem] theorem fl35_1 : fldOf Go.Proofs.Try.prog 35 1 = some (1, 1, false) := by kernel_rfl
@[go_sem] theorem ft35 : flatTy Go.Proofs.Try.prog 35 = true := by kernel_rfl
@[go_sem] theorem ty40 : tyOf Go.Proofs.Try.prog 40 = .slice 30 := by kernel_rfl
@[go_sem] theorem sz40 : szOf Go.Proofs.Try.prog 40 = 1 := by kernel_rfl
@[go_sem] theorem by40 : byOf Go.Proofs.Try.prog 40 = 24 := by kernel_rfl
@[go_sem] theorem kn40 : known Go.Proofs.Try.prog 40 = true := by kernel_rfl
@[go_sem] theorem zk40 : zeroOk Go.Proofs.Try.prog 40 = true := by kernel_rfl
@[go_sem] theorem ze40 : zeOf Go.Proofs.Try.prog 40 = .nils := by kernel_rfl
@[go_sem] theorem ty43 : tyOf Go.Proofs.Try.prog 43 = .slice 35 := by kernel_rfl
@[go_sem] theorem sz43 : szOf Go.Proofs.Try.prog 43 = 1 := by kernel_rfl
@[go_sem] theorem by43 : byOf Go.Proofs.Try.prog 43 = 24 := by kernel_rfl
@[go_sem] theorem kn43 : known Go.Proofs.Try.prog 43 = true := by kernel_rfl
@[go_sem] theorem zk43 : zeroOk Go.Proofs.Try.prog 43 = true := by kernel_rfl
@[go_sem] theorem ze43 : zeOf Go.Proofs.Try.prog 43 = .nils := by kernel_rfl
@[go_sem] theorem ty51 : tyOf Go.Proofs.Try.prog 51 = .slice 5 := by kernel_rfl
@[go_sem] theorem sz51 : szOf Go.Proofs.Try.prog 51 = 1 := by kernel_rfl
@[go_sem] theorem by51 : byOf Go.Proofs.Try.prog 51 = 24 := by kernel_rfl
@[go_sem] theorem kn51 : known Go.Proofs.Try.prog 51 = true := by kernel_rfl
@[go_sem] theorem zk51 : zeroOk Go.Proofs.Try.prog 51 = true := by kernel_rfl
@[go_sem] theorem ze51 : zeOf Go.Proofs.Try.prog 51 = .nils := by kernel_rfl
@[go_sem] theorem ty70 : tyOf Go.Proofs.Try.prog 70 = .func := by kernel_rfl
@[go_sem] theorem sz70 : szOf Go.Proofs.Try.prog 70 = 1 := by kernel_rfl
@[go_sem] theorem by70 : byOf Go.Proofs.Try.prog 70 = 8 := by kernel_rfl
@[go_sem] theorem kn70 : known Go.Proofs.Try.prog 70 = true := by kernel_rfl
@[go_sem] theorem zk70 : zeroOk Go.Proofs.Try.prog 70 = true := by kernel_rfl
@[go_sem] theorem ze70 : zeOf Go.Proofs.Try.prog 70 = .nilf := by kernel_rfl
@[go_sem] theorem ty71 : tyOf Go.Proofs.Try.prog 71 = .func := by kernel_rfl
@[go_sem] theorem sz71 : szOf Go.Proofs.Try.prog 71 = 1 := by kernel_rfl
@[go_sem] theorem by71 : byOf Go.Proofs.Try.prog 71 = 8 := by kernel_rfl
@[go_sem] theorem kn71 : known Go.Proofs.Try.prog 71 = true := by kernel_rfl
@[go_sem] theorem zk71 : zeroOk Go.Proofs.Try.prog 71 = true := by kernel_rfl
@[go_sem] theorem ze71 : zeOf Go.Proofs.Try.prog 71 = .nilf := by kernel_rfl
@[go_sem] theorem ty83 : tyOf Go.Proofs.Try.prog 83 = .ptr 98 := by kernel_rfl
@[go_sem] theorem sz83 : szOf Go.Proofs.Try.prog 83 = 1 := by kernel_rfl
@[go_sem] theorem by83 : byOf Go.Proofs.Try.prog 83 = 8 := by kernel_rfl
@[go_sem] theorem kn83 : known Go.Proofs.Try.prog 83 = true := by kernel_rfl
@[go_sem] theorem zk83 : zeroOk Go.Proofs.Try.prog 83 = true := by kernel_rfl
@[go_sem] theorem ze83 : zeOf Go.Proofs.Try.prog 83 = .undef := by kernel_rfl
@[go_sem] theorem ty96 : tyOf Go.Proofs.Try.prog 96 = .int .u64 := by kernel_rfl
@[go_sem] theorem sz96 : szOf Go.Proofs.Try.prog 96 = 1 := by kernel_rfl
@[go_sem] theorem by96 : byOf Go.Proofs.Try.prog 96 = 8 := by kernel_rfl
@[go_sem] theorem kn96 : known Go.Proofs.Try.prog 96 = true := by kernel_rfl
@[go_sem] theorem zk96 : zeroOk Go.Proofs.Try.prog 96 = true := by kernel_rfl
@[go_sem] theorem ze96 : zeOf Go.Proofs.Try.prog 96 = .int .u64 0 := by kernel_rfl
@[go_sem] theorem ty98 : tyOf Go.Proofs.Try.prog 98 = .strct [(0, 51), (1, 3), (2, 3)] := by kernel_rfl
@[go_sem] theorem sz98 : szOf Go.Proofs.Try.prog 98 = 3 := by kernel_rfl
@[go_sem] theorem by98 : byOf Go.Proofs.Try.prog 98 = 40 := by kernel_rfl
@[go_sem] theorem kn98 : known Go.Proofs.Try.prog 98 = true := by kernel_rfl
@[go_sem] theorem zk98 : zeroOk Go.Proofs.Try.prog 98 = true := by kernel_rfl
@[go_sem] theorem ze98 : zeOf Go.Proofs.Try.prog 98 = .agg [.nils, .int .i64 0, .int .i64 0] := by kernel_rfl
@[go_sem] theorem fl98_0 : fldOf Go.Proofs.Try.prog 98 0 = some (0, 1, false) := by kernel_rfl
@[go_sem] theorem fl98_1 : fldOf Go.Proofs.Try.prog 98 1 = some (1, 1, false) := by kernel_rfl
@[go_sem] theorem fl98_2 : fldOf Go.Proofs.Try.prog 98 2 = some (2, 1, false) := by kernel_rfl
@[go_sem] theorem ft98 : flatTy Go.Proofs.Try.prog 98 = false := by kernel_rfl
@[go_sem] theorem ty101 : tyOf Go.Proofs.Try.prog 101 = .int .u32 := by kernel_rfl
@[go_sem] theorem sz101 : szOf Go.Proofs.Try.prog 101 = 1 := by kernel_rfl
@[go_sem] theorem by101 : byOf Go.Proofs.Try.prog 101 = 4 := by kernel_rfl
@[go_sem] theorem kn101 : known Go.Proofs.Try.prog 101 = true := by kernel_rfl
@[go_sem] theorem zk101 : zeroOk Go.Proofs.Try.prog 101 = true := by kernel_rfl
@[go_sem] theorem ze101 : zeOf Go.Proofs.Try.prog 101 = .int .u32 0 := by kernel_rfl
@[go_sem] theorem ty102 : tyOf Go.Proofs.Try.prog 102 = .slice 101 := by kernel_rfl
@[go_sem] theorem sz102 : szOf Go.Proofs.Try.prog 102 = 1 := by kernel_rfl
@[go_sem] theorem by102 : byOf Go.Proofs.Try.prog 102 = 24 := by kernel_rfl
@[go_sem] theorem kn102 : known Go.Proofs.Try.prog 102 = true := by kernel_rfl
@[go_sem] theorem zk102 : zeroOk Go.Proofs.Try.prog 102 = true := by kernel_rfl
@[go_sem] theorem ze102 : zeOf Go.Proofs.Try.prog 102 = .nils := by kernel_rfl
@[go_sem] theorem ty111 : tyOf Go.Proofs.Try.prog 111 = .arr 8 101 := by kernel_rfl
@[go_sem] theorem sz111 : szOf Go.Proofs.Try.prog 111 = 8 := by kernel_rfl
@[go_sem] theorem by111 : byOf Go.Proofs.Try.prog 111 = 32 := by kernel_rfl
@[go_sem] theorem kn111 : known Go.Proofs.Try.prog 111 = true := by kernel_rfl
@[go_sem] theorem zk111 : zeroOk Go.Proofs.Try.prog 111 = true := by kernel_rfl
@[go_sem] theorem ze111 : zeOf Go.Proofs.Try.prog 111 = .agg [.int .u32 0, .int .u32 0, .int .u32 0, .int .u32 0, .int .u32 0, .int .u32 0, .int .u32 0, .int .u32 0] := by kernel_rfl
@[go_sem] theorem ty112 : tyOf Go.Proofs.Try.prog 112 = .arr 64 101 := by kernel_rfl
@[go_sem] theorem sz112 : szOf Go.Proofs.Try.prog 112 = 64 := by kernel_rfl
@[go_sem] theorem by112 : byOf Go.Proofs.Try.prog 112 = 256 := by kernel_rfl
@[go_sem] theorem kn112 : known Go.Proofs.Try.prog 112 = true := by kernel_rfl
@[go_sem] theorem zk112 : zeroOk Go.Proofs.Try.prog 112 = true := by kernel_rfl
@[go_sem] theorem ty114 : tyOf Go.Proofs.Try.prog 114 = .func := by kernel_rfl
@[go_sem] theorem sz114 : szOf Go.Proofs.Try.prog 114 = 1 := by kernel_rfl
@[go_sem] theorem by114 : byOf Go.Proofs.Try.prog 114 = 8 := by kernel_rfl
@[go_sem] theorem kn114 : known Go.Proofs.Try.prog 114 = true := by kernel_rfl
@[go_sem] theorem zk114 : zeroOk Go.Proofs.Try.prog 114 = true := by kernel_rfl
@[go_sem] theorem ze114 : zeOf Go.Proofs.Try.prog 114 = .nilf := by kernel_rfl
@[go_sem] theorem ty115 : tyOf Go.Proofs.Try.prog 115 = .func := by kernel_rfl
@[go_sem] theorem sz115 : szOf Go.Proofs.Try.prog 115 = 1 := by kernel_rfl
@[go_sem] theorem by115 : byOf Go.Proofs.Try.prog 115 = 8 := by kernel_rfl
@[go_sem] theorem kn115 : known Go.Proofs.Try.prog 115 = true := by kernel_rfl
@[go_sem] theorem zk115 : zeroOk Go.Proofs.Try.prog 115 = true := by kernel_rfl
@[go_sem] theorem ze115 : zeOf Go.Proofs.Try.prog 115 = .nilf := by kernel_rfl
@[go_sem] theorem ty126 : tyOf Go.Proofs.Try.prog 126 = .func := by kernel_rfl
@[go_sem] theorem sz126 : szOf Go.Proofs.Try.prog 126 = 1 := by kernel_rfl
@[go_sem] theorem by126 : byOf Go.Proofs.Try.prog 126 = 8 := by kernel_rfl
@[go_sem] theorem kn126 : known Go.Proofs.Try.prog 126 = true := by kernel_rfl
@[go_sem] theorem zk126 : zeroOk Go.Proofs.Try.prog 126 = true := by kernel_rfl
@[go_sem] theorem ze126 : zeOf Go.Proofs.Try.prog 126 = .nilf := by kernel_rfl
@[go_sem] theorem ty129 : tyOf Go.Proofs.Try.prog 129 = .slice 3 := by kernel_rfl
@[go_sem] theorem sz129 : szOf Go.Proofs.Try.prog 129 = 1 := by kernel_rfl
@[go_sem] theorem by129 : byOf Go.Proofs.Try.prog 129 = 24 := by kernel_rfl
@[go_sem] theorem kn129 : known Go.Proofs.Try.prog 129 = true := by kernel_rfl
@[go_sem] theorem zk129 : zeroOk Go.Proofs.Try.prog 129 = true := by kernel_rfl
@[go_sem] theorem ze129 : zeOf Go.Proofs.Try.prog 129 = .nils := by kernel_rfl
@[go_sem] theorem ty134 : tyOf Go.Proofs.Try.prog 134 = .ptr 149 := by kernel_rfl
@[go_sem] theorem sz134 : szOf Go.Proofs.Try.prog 134 = 1 := by kernel_rfl
@[go_sem] theorem by134 : byOf Go.Proofs.Try.prog 134 = 8 := by kernel_rfl
@[go_sem] theorem kn134 : known Go.Proofs.Try.prog 134 = true := by kernel_rfl
@[go_sem] theorem zk134 : zeroOk Go.Proofs.Try.prog 134 = true := by kernel_rfl
@[go_sem] theorem ze134 : zeOf Go.Proofs.Try.prog 134 = .undef := by kernel_rfl
@[go_sem] theorem ty137 : tyOf Go.Proofs.Try.prog 137 = .arr 16 5 := by kernel_rfl
@[go_sem] theorem sz137 : szOf Go.Proofs.Try.prog 137 = 16 := by kernel_rfl
@[go_sem] theorem by137 : byOf Go.Proofs.Try.prog 137 = 16 := by kernel_rfl
@[go_sem] theorem kn137 : known Go.Proofs.Try.prog 137 = true := by kernel_rfl
@[go_sem] theorem zk137 : zeroOk Go.Proofs.Try.prog 137 = true := by kernel_rfl
@[go_sem] theorem ze137 : zeOf Go.Proofs.Try.prog 137 = .agg [.int .u8 0, .int .u8 0, .int .u8 0, .int .u8 0, .int .u8 0, .int .u8 0, .int .u8 0, .int .u8 0, .int .u8 0, .int .u8 0, .int .u8 0, .int .u8 0, .int .u8 0, .int .u8 0, .int .u8 0, .int .u8 0] := by kernel_rfl
@[go_sem] theorem ty146 : tyOf Go.Proofs.Try.prog 146 = .arr 256 5 := by kernel_rfl
@[go_sem] theorem sz146 : szOf Go.Proofs.Try.prog 146 = 256 := by kernel_rfl
@[go_sem] theorem by146 : byOf Go.Proofs.Try.prog 146 = 256 := by kernel_rfl
@[go_sem] theorem kn146 : known Go.Proofs.Try.prog 146 = true := by kernel_rfl
@[go_sem] theorem zk146 : zeroOk Go.Proofs.Try.prog 146 = true := by kernel_rfl
@[go_sem] theorem ty147 : tyOf Go.Proofs.Try.prog 147 = .slice 137 := by kernel_rfl
@[go_sem] theorem sz147 : szOf Go.Proofs.Try.prog 147 = 1 := by kernel_rfl
@[go_sem] theorem by147 : byOf Go.Proofs.Try.prog 147 = 24 := by kernel_rfl
@[go_sem] theorem kn147 : known Go.Proofs.Try.prog 147 = true := by kernel_rfl
@[go_sem] theorem zk147 : zeroOk Go.Proofs.Try.prog 147 = true := by kernel_rfl
@[go_sem] theorem ze147 : zeOf Go.Proofs.Try.prog 147 = .nils := by kernel_rfl
@[go_sem] theorem ty149 : tyOf Go.Proofs.Try.prog 149 = .strct [(0, 146), (256, 146), (512, 147)] := by kernel_rfl
@[go_sem] theorem sz149 : szOf Go.Proofs.Try.prog 149 = 513 := by kernel_rfl
@[go_sem] theorem by149 : byOf Go.Proofs.Try.prog 149 = 536 := by kernel_rfl
@[go_sem] theorem kn149 : known Go.Proofs.Try.prog 149 = true := by kernel_rfl
@[go_sem] theorem zk149 : zeroOk Go.Proofs.Try.prog 149 = true := by kernel_rfl
@[go_sem] theorem fl149_0 : fldOf Go.Proofs.Try.prog 149 0 = some (0, 256, true) := by kernel_rfl
@[go_sem] theorem fl149_1 : fldOf Go.Proofs.Try.prog 149 1 = some (256, 256, true) := by kernel_rfl
@[go_sem] theorem fl149_2 : fldOf Go.Proofs.Try.prog 149 2 = some (512, 1, false) := by kernel_rfl
@[go_sem] theorem ft149 : flatTy Go.Proofs.Try.prog 149 = false := by kernel_rfl
@[go_sem] theorem ty151 : tyOf Go.Proofs.Try.prog 151 = .slice 152 := by kernel_rfl
@[go_sem] theorem sz151 : szOf Go.Proofs.Try.prog 151 = 1 := by kernel_rfl
@[go_sem] theorem by151 : byOf Go.Proofs.Try.prog 151 = 24 := by kernel_rfl
@[go_sem] theorem kn151 : known Go.Proofs.Try.prog 151 = true := by kernel_rfl
@[go_sem] theorem zk151 : zeroOk Go.Proofs.Try.prog 151 = true := by kernel_rfl
@[go_sem] theorem ze151 : zeOf Go.Proofs.Try.prog 151 = .nils := by kernel_rfl
@[go_sem] theorem ty152 : tyOf Go.Proofs.Try.prog 152 = .arr 4 5 := by kernel_rfl
@[go_sem] theorem sz152 : szOf Go.Proofs.Try.prog 152 = 4 := by kernel_rfl
@[go_sem] theorem by152 : byOf Go.Proofs.Try.prog 152 = 4 := by kernel_rfl
@[go_sem] theorem kn152 : known Go.Proofs.Try.prog 152 = true := by kernel_rfl
@[go_sem] theorem zk152 : zeroOk Go.Proofs.Try.prog 152 = true := by kernel_rfl
@[go_sem] theorem ze152 : zeOf Go.Proofs.Try.prog 152 = .agg [.int .u8 0, .int .u8 0, .int .u8 0, .int .u8 0] := by kernel_rfl
@[go_sem] theorem ty156 : tyOf Go.Proofs.Try.prog 156 = .func := by kernel_rfl
@[go_sem] theorem sz156 : szOf Go.Proofs.Try.prog 156 = 1 := by kernel_rfl
@[go_sem] theorem by156 : byOf Go.Proofs.Try.prog 156 = 8 := by kernel_rfl
@[go_sem] theorem kn156 : known Go.Proofs.Try.prog 156 = true := by kernel_rfl
@[go_sem] theorem zk156 : zeroOk Go.Proofs.Try.prog 156 = true := by kernel_rfl
@[go_sem] theorem ze156 : zeOf Go.Proofs.Try.prog 156 = .nilf := by kernel_rfl
@[go_sem] theorem an3 : ann 3 = { vs := [8, 9, 10, 11, 12] } := by kernel_rfl
@[go_sem] theorem an4 : ann 4 = { vs := [6, 7, 8, 9, 10] } := by kernel_rfl
@[go_sem] theorem an5 : ann 5 = { vs := [6, 7, 8, 9, 10] } := by kernel_rfl
@[go_sem] theorem an6 : ann 6 = { vs := [4, 8, 9, 10, 11, 12, 13, 14] } := by kernel_rfl
@[go_sem] theorem an7 : ann 7 = { vs := [2, 3, 4, 5, 6, 7, 8] } := by kernel_rfl
@[go_sem] theorem an8 : ann 8 = { vs := [4, 5, 6, 7, 8, 9, 10, 11, 12, 13, 14, 15] } := by kernel_rfl
@[go_sem] theorem an9 : ann 9 = { vs := [4, 5, 6, 7, 8, 9, 11, 12, 13, 15, 16, 17, 18, 19, 20, 21, 22, 23, 24, 25, 26] } := by kernel_rfl
@[go_sem] theorem an10 : ann 10 = { vs := [8, 9, 10, 11, 12] } := by kernel_rfl
@[go_sem] theorem an11 : ann 11 = { vs := [8, 9, 10, 11, 12] } := by kernel_rfl
@[go_sem] theorem an12 : ann 12 = { vs := [8, 9] } := by kernel_rfl
@[go_sem] theorem an13 : ann 13 = { vs := [8, 9] } := by kernel_rfl
@[go_sem] theorem an14 : ann 14 = { vs := [6, 7] } := by kernel_rfl
@[go_sem] theorem an15 : ann 15 = { vs := [6, 7] } := by kernel_rfl
@[go_sem] theorem an16 : ann 16 = { vs := [6, 7] } := by kernel_rfl
@[go_sem] theorem an17 : ann 17 = { vs := [6, 7] } := by kernel_rfl
@[go_sem] theorem an18 : ann 18 = { vs := [2, 4] } := by kernel_rfl
@[go_sem] theorem an19 : ann 19 = { vs := [4, 5], keep := [(0, [(0, .v), (1, .v), (5, .v)])] } := by kernel_rfl
@[go_sem] theorem an20 : ann 20 = { vs := [4, 8, 9, 10, 11, 12], keep := [(0, [(1, .v), (2, .v), (3, .v), (4, .v), (10, .v)])] } := by kernel_rfl
@[go_sem] theorem an21 : ann 21 = { vs := [1, 2, 3] } := by kernel_rfl
@[go_sem] theorem an22 : ann 22 = { vs := [2, 3, 4], keep := [(0, [(0, .v), (3, .v), (4, .v)])] } := by kernel_rfl
@[go_sem] theorem an23 : ann 23 = { vs := [4, 8, 9, 10, 11] } := by kernel_rfl
@[go_sem] theorem an24 : ann 24 = { vs := [4, 5], keep := [(0, [(0, .v), (1, .v), (5, .v)])] } := by kernel_rfl
@[go_sem] theorem an25 : ann 25 = { vs := [4, 5], keep := [(0, [(0, .v), (1, .v), (5, .v)])] } := by kernel_rfl
@[go_sem] theorem an26 : ann 26 = { vs := [2, 3] } := by kernel_rfl
@[go_sem] theorem an27 : ann 27 = { vs := [2, 3, 4], keep := [(0, [(0, .v), (3, .v), (4, .v)])] } := by kernel_rfl
@[go_sem] theorem an28 : ann 28 = { vs := [2, 3, 4] } := by kernel_rfl
@[go_sem] theorem an29 : ann 29 = { vs := [4, 5], keep := [(0, [(0, .v), (1, .v), (5, .v)])] } := by kernel_rfl
@[go_sem] theorem an30 : ann 30 = { vs := [4, 5] } := by kernel_rfl
@[go_sem] theorem an31 : ann 31 = { vs := [4, 5, 6] } := by kernel_rfl
@[go_sem] theorem an32 : ann 32 = { vs := [4, 5], keep := [(0, [(0, .v), (1, .v), (5, .v)])], modes := [.l] } := by kernel_rfl
@[go_sem] theorem an33 : ann 33 = { vs := [4, 5], keep := [(0, [(0, .v), (1, .v), (5, .v)])], modes := [.l] } := by kernel_rfl
@[go_sem] theorem an34 : ann 34 = { vs := [4, 5], keep := [(0, [(0, .v), (1, .v), (5, .v)])] } := by kernel_rfl
@[go_sem] theorem an35 : ann 35 = { vs := [2] } := by kernel_rfl
@[go_sem] theorem an36 : ann 36 = { vs := [2] } := by kernel_rfl
@[go_sem] theorem an37 : ann 37 = { vs := [6] } := by kernel_rfl
@[go_sem] theorem an38 : ann 38 = { vs := [4, 5], keep := [(0, [(0, .v), (1, .v), (5, .v)])] } := by kernel_rfl
@[go_sem] theorem an39 : ann 39 = { vs := [2] } := by kernel_rfl
@[go_sem] theorem an40 : ann 40 = { vs := [2] } := by kernel_rfl
@[go_sem] theorem an41 : ann 41 = { vs := [5, 6, 7, 8, 9] } := by kernel_rfl
@[go_sem] theorem an42 : ann 42 = { vs := [8, 9, 10] } := by kernel_rfl
@[go_sem] theorem an43 : ann 43 = { vs := [8, 9, 10] } := by kernel_rfl
@[go_sem] theorem an44 : ann 44 = { vs := [8, 9, 10, 11, 12] } := by kernel_rfl
@[go_sem] theorem an45 : ann 45 = { vs := [8, 9, 10, 11, 12] } := by kernel_rfl
@[go_sem] theorem an46 : ann 46 = { vs := [6] } := by kernel_rfl
@[go_sem] theorem an47 : ann 47 = { vs := [8] } := by kernel_rfl
@[go_sem] theorem an48 : ann 48 = { vs := [2] } := by kernel_rfl
@[go_sem] theorem an49 : ann 49 = { vs := [2] } := by kernel_rfl
@[go_sem] theorem an50 : ann 50 = { vs := [2] } := by kernel_rfl
@[go_sem] theorem an51 : ann 51 = { vs := [4] } := by kernel_rfl
@[go_sem] theorem an52 : ann 52 = { vs := [4, 5, 6], keep := [(0, [(0, .v), (5, .v), (6, .v)])] } := by kernel_rfl
@[go_sem] theorem an53 : ann 53 = { vs := [6] } := by kernel_rfl
@[go_sem] theorem an54 : ann 54 = { vs := [2] } := by kernel_rfl
@[go_sem] theorem an55 : ann 55 = { vs := [6] } := by kernel_rfl
@[go_sem] theorem an56 : ann 56 = { vs := [6] } := by kernel_rfl
@[go_sem] theorem an57 : ann 57 = { vs := [6] } := by kernel_rfl
@[go_sem] theorem an58 : ann 58 = { vs := [2] } := by kernel_rfl
@[go_sem] theorem an59 : ann 59 = { vs := [6] } := by kernel_rfl
@[go_sem] theorem an60 : ann 60 = { vs := [1, 2] } := by kernel_rfl
@[go_sem] theorem an61 : ann 61 = { vs := [8, 9, 10, 11, 12, 13, 14, 15, 16] } := by kernel_rfl
@[go_sem] theorem an62 : ann 62 = { vs := [1, 2] } := by kernel_rfl
@[go_sem] theorem an63 : ann 63 = { vs := [2] } := by kernel_rfl
@[go_sem] theorem an64 : ann 64 = { vs := [1, 2] } := by kernel_rfl
@[go_sem] theorem an65 : ann 65 = { vs := [3, 4] } := by kernel_rfl
@[go_sem] theorem an66 : ann 66 = { vs := [2] } := by kernel_rfl
@[go_sem] theorem an67 : ann 67 = { vs := [4, 8, 9, 10, 11, 12, 13, 14, 15] } := by kernel_rfl
@[go_sem] theorem an68 : ann 68 = { vs := [2, 3], keep := [(0, [(0, .v), (3, .v)])] } := by kernel_rfl
@[go_sem] theorem an69 : ann 69 = { vs := [2, 3, 5] } := by kernel_rfl
@[go_sem] theorem an70 : ann 70 = { vs := [2] } := by kernel_rfl
@[go_sem] theorem an71 : ann 71 = { vs := [2, 3, 5] } := by kernel_rfl
@[go_sem] theorem an72 : ann 72 = { vs := [2, 3, 4] } := by kernel_rfl
@[go_sem] theorem an73 : ann 73 = { vs := [4, 5] } := by kernel_rfl
@[go_sem] theorem an74 : ann 74 = { vs := [4, 5] } := by kernel_rfl
@[go_sem] theorem an75 : ann 75 = { vs := [2, 3], keep := [(0, [(0, .v), (3, .v)])] } := by kernel_rfl
@[go_sem] theorem an76 : ann 76 = { vs := [2] } := by kernel_rfl
@[go_sem] theorem an77 : ann 77 = { vs := [2, 3, 4], keep := [(0, [(0, .v), (3, .o 2 true), (4, .v)])], modes := [.l] } := by kernel_rfl
@[go_sem] theorem an78 : ann 78 = { vs := [2], modes := [.l] } := by kernel_rfl
@[go_sem] theorem an79 : ann 79 = { vs := [3, 4] } := by kernel_rfl
@[go_sem] theorem an80 : ann 80 = { vs := [2, 3, 4, 5, 6, 7, 8, 9], keep := [(0, [(0, .v), (3, .v), (4, .o 1 true)]), (2, [(0, .v), (3, .v), (4, .o 1 true), (5, .v)]), (4, [(3, .v), (4, .v), (6, .v), (7, .v)]), (6, [(3, .v), (8, .o 1 true), (9, .v)])] } := by kernel_rfl
@[go_sem] theorem an81 : ann 81 = { vs := [2] } := by kernel_rfl
@[go_sem] theorem an82 : ann 82 = { vs := [6] } := by kernel_rfl
@[go_sem] theorem an83 : ann 83 = { vs := [8] } := by kernel_rfl
@[go_sem] theorem an84 : ann 84 = { vs := [6] } := by kernel_rfl
@[go_sem] theorem an85 : ann 85 = { vs := [2] } := by kernel_rfl
@[go_sem] theorem an86 : ann 86 = { vs := [8] } := by kernel_rfl
@[go_sem] theorem an87 : ann 87 = { vs := [8, 9, 10, 11] } := by kernel_rfl
@[go_sem] theorem an88 : ann 88 = { vs := [8, 9, 10, 11] } := by kernel_rfl
@[go_sem] theorem an89 : ann 89 = { vs := [4, 5, 6, 7, 8], keep := [(0, [(0, .v), (1, .v), (5, .v), (6, .v), (7, .v)])] } := by kernel_rfl
@[go_sem] theorem an90 : ann 90 = { vs := [2] } := by kernel_rfl
@[go_sem] theorem an91 : ann 91 = { vs := [4] } := by kernel_rfl
@[go_sem] theorem an92 : ann 92 = { vs := [2] } := by kernel_rfl
@[go_sem] theorem an93 : ann 93 = { vs := [2, 3, 4, 5, 6, 7, 9, 38, 39], keep := [(0, [(0, .v), (3, .o 1 true), (6, .v)]), (4, [(7, .v), (38, .v), (39, .v)])] } := by kernel_rfl
@[go_sem] theorem an94 : ann 94 = { vs := [4, 5, 6, 12, 13], keep := [(0, [(1, .v), (5, .v), (12, .v), (13, .v)])] } := by kernel_rfl
@[go_sem] theorem an95 : ann 95 = { vs := [4] } := by kernel_rfl
@[go_sem] theorem an96 : ann 96 = { vs := [3] } := by kernel_rfl
@[go_sem] theorem an97 : ann 97 = { vs := [1, 2] } := by kernel_rfl
@[go_sem] theorem an98 : ann 98 = { vs := [4] } := by kernel_rfl
@[go_sem] theorem an99 : ann 99 = { vs := [2] } := by kernel_rfl
@[go_sem] theorem an100 : ann 100 = { vs := [4, 5, 6, 7], modes := [.l] } := by kernel_rfl
@[go_sem] theorem an101 : ann 101 = { vs := [2], modes := [.l] } := by kernel_rfl
@[go_sem] theorem an102 : ann 102 = { vs := [4] } := by kernel_rfl
@[go_sem] theorem an103 : ann 103 = { vs := [2, 3] } := by kernel_rfl
@[go_sem] theorem an104 : ann 104 = { vs := [0] } := by kernel_rfl
@[go_sem] theorem an105 : ann 105 = { vs := [6, 7, 8, 9, 10, 11, 12, 13, 14, 15, 16, 17], keep := [(0, [(0, .v), (1, .v), (2, .v), (6, .v), (7, .v)]), (2, [(0, .v), (2, .v), (6, .v), (8, .v)]), (4, [(0, .v), (2, .v), (6, .v), (11, .o 1 true), (12, .v)]), (6, [(0, .v), (11, .v), (17, .v)])], modes := [.l] } := by kernel_rfl
@[go_sem] theorem an106 : ann 106 = { vs := [8, 9, 10, 11] } := by kernel_rfl
@[go_sem] theorem an107 : ann 107 = { vs := [4] } := by kernel_rfl
@[go_sem] theorem an108 : ann 108 = { vs := [2] } := by kernel_rfl
@[go_sem] theorem an109 : ann 109 = { vs := [8, 9, 10, 11] } := by kernel_rfl
@[go_sem] theorem an110 : ann 110 = { vs := [4] } := by kernel_rfl
@[go_sem] theorem an111 : ann 111 = { vs := [8, 9, 10, 11, 12] } := by kernel_rfl
@[go_sem] theorem an112 : ann 112 = { vs := [8, 9, 10, 11, 12] } := by kernel_rfl
@[go_sem] theorem an113 : ann 113 = { vs := [4, 5, 7, 8], keep := [(0, [(0, .v), (1, .v), (7, .v), (8, .v)])] } := by kernel_rfl
@[go_sem] theorem an114 : ann 114 = { vs := [0] } := by kernel_rfl
@[go_sem] theorem an115 : ann 115 = { vs := [2, 3, 4] } := by kernel_rfl
@[go_sem] theorem an116 : ann 116 = { vs := [3, 4, 5, 6, 7, 8, 9, 10, 11, 12, 13, 15, 95], keep := [(0, [(3, .v), (4, .v), (5, .v), (6, .v), (7, .v), (15, .v)]), (2, [(3, .v), (6, .v), (7, .v), (95, .v)])] } := by kernel_rfl
@[go_sem] theorem an117 : ann 117 = { vs := [2, 3, 4, 6, 7, 8, 9, 10, 11, 22, 23, 24], keep := [(0, [(0, .v), (2, .v), (3, .v), (11, .v)]), (2, [(0, .v), (2, .v), (3, .v), (4, .v), (11, .v), (22, .v), (23, .v), (24, .v)])] } := by kernel_rfl
@[go_sem] theorem an118 : ann 118 = { vs := [2], modes := [.l] } := by kernel_rfl
@[go_sem] theorem an119 : ann 119 = { vs := [4, 5, 7, 8], keep := [(0, [(0, .v), (1, .v), (7, .v), (8, .v)])] } := by kernel_rfl
@[go_sem] theorem an120 : ann 120 = { vs := [4] } := by kernel_rfl
@[go_sem] theorem an121 : ann 121 = { vs := [2, 3, 4] } := by kernel_rfl
@[go_sem] theorem an122 : ann 122 = { vs := [6, 7, 8, 9, 10, 11, 12], keep := [(0, [(1, .v), (7, .v), (8, .v), (9, .v), (10, .v)]), (2, [(1, .v), (7, .v), (8, .v), (9, .v), (10, .v), (11, .v), (12, .v)])] } := by kernel_rfl
@[go_sem] theorem an123 : ann 123 = { vs := [8, 9] } := by kernel_rfl
@[go_sem] theorem an124 : ann 124 = { vs := [2, 3, 4] } := by kernel_rfl
@[go_sem] theorem an125 : ann 125 = { vs := [6, 7, 8, 9, 10, 11], keep := [(0, [(1, .v), (7, .v), (8, .v), (9, .v)]), (2, [(1, .v), (7, .v), (8, .v), (9, .v), (10, .v), (11, .v)])] } := by kernel_rfl
@[go_sem] theorem an126 : ann 126 = { vs := [8] } := by kernel_rfl
@[go_sem] theorem an127 : ann 127 = { vs := [4, 5], keep := [(0, [(0, .v), (1, .v), (2, .v), (4, .v)])] } := by kernel_rfl
@[go_sem] theorem an128 : ann 128 = { vs := [4] } := by kernel_rfl
@[go_sem] theorem an129 : ann 129 = { vs := [6, 7, 8, 9], keep := [(0, [(0, .v), (1, .v), (2, .v), (7, .v), (8, .v), (9, .v)])] } := by kernel_rfl
@[go_sem] theorem an130 : ann 130 = { vs := [0, 1, 2, 3, 4, 5], keep := [(0, [(1, .v), (2, .v), (3, .v)]), (2, [(1, .v), (4, .v), (5, .v)])] } := by kernel_rfl
@[go_sem] theorem an131 : ann 131 = { vs := [4, 5, 6, 7, 8, 9, 10, 11, 12, 13, 14], keep := [(0, [(0, .v), (1, .v), (5, .v), (6, .o 1 true), (7, .v)]), (2, [(1, .v), (5, .v), (6, .o 1 true), (8, .v), (9, .v)]), (4, [(1, .v), (5, .v), (6, .v), (8, .v), (9, .v), (10, .v), (11, .v)]), (6, [(1, .v), (5, .v), (6, .v), (8, .v), (9, .v), (10, .v), (12, .v)]), (8, [(6, .v), (13, .o 1 true), (14, .v)])] } := by kernel_rfl
@[go_sem] theorem an132 : ann 132 = { vs := [6, 7, 8], keep := [(0, [(0, .v), (1, .v), (7, .o 1 true), (8, .v)])] } := by kernel_rfl
@[go_sem] theorem an133 : ann 133 = { vs := [6, 7, 8, 9], keep := [(0, [(0, .v), (1, .v), (2, .v), (7, .v), (8, .v), (9, .v)])] } := by kernel_rfl
@[go_sem] theorem an134 : ann 134 = { vs := [2, 3, 4, 5, 6, 7, 8, 9, 10, 11, 12, 13, 14, 17, 45, 46, 142, 170], keep := [(0, [(0, .v), (3, .v), (17, .v)]), (2, [(0, .v), (3, .v), (6, .v), (7, .v), (8, .v), (45, .v), (46, .v)]), (5, [(0, .v), (3, .v), (6, .v), (7, .v), (8, .v), (9, .v), (10, .v), (45, .v), (46, .v), (142, .v)]), (7, [(3, .v), (7, .v), (12, .v)]), (9, [(3, .v), (7, .v), (12, .v), (13, .v), (170, .v)]), (1000037, [])] } := by kernel_rfl
@[go_sem] theorem an135 : ann 135 = { vs := [2] } := by kernel_rfl
@[go_sem] theorem an136 : ann 136 = { vs := [3, 4, 5, 6, 7, 8, 9, 29], keep := [(0, [(0, .v), (3, .v), (4, .v), (5, .v), (6, .v)]), (2, [(0, .v), (3, .v), (4, .v), (5, .v), (6, .v), (7, .v), (29, .v)])] } := by kernel_rfl
@[go_sem] theorem an137 : ann 137 = { vs := [4, 5] } := by kernel_rfl
@[go_sem] theorem an138 : ann 138 = { vs := [2] } := by kernel_rfl
@[go_sem] theorem an139 : ann 139 = { vs := [2, 3, 4], keep := [(0, [(0, .v), (3, .v), (4, .v)])] } := by kernel_rfl
@[go_sem] theorem an140 : ann 140 = { vs := [4, 5, 6], keep := [(0, [(0, .v), (1, .v), (5, .v), (6, .v)])] } := by kernel_rfl
@[go_sem] theorem an141 : ann 141 = { vs := [2, 3, 4], keep := [(0, [(0, .v), (3, .o 1 true), (4, .v)])] } := by kernel_rfl
@[go_sem] theorem an142 : ann 142 = { vs := [4], keep := [(0, [(0, .v), (1, .v), (4, .v)])] } := by kernel_rfl
@[go_sem] theorem an143 : ann 143 = { vs := [4], keep := [(0, [(0, .v), (1, .v), (4, .v)])] } := by kernel_rfl
@[go_sem] theorem an144 : ann 144 = { vs := [4, 5, 6, 7], keep := [(0, [(0, .v), (1, .v), (5, .v), (6, .v)]), (2, [(0, .v), (1, .v), (5, .v), (6, .v), (7, .v)])] } := by kernel_rfl
@[go_sem] theorem an145 : ann 145 = { vs := [2, 3, 4, 5, 6], keep := [(0, [(0, .v), (3, .v), (4, .v)]), (2, [(0, .v), (3, .v), (4, .v), (5, .v), (6, .v)])] } := by kernel_rfl
@[go_sem] theorem an146 : ann 146 = { vs := [2, 3, 4], keep := [(0, [(0, .v), (3, .o 1 true), (4, .v)])] } := by kernel_rfl
@[go_sem] theorem an147 : ann 147 = { vs := [2, 3] } := by kernel_rfl
@[go_sem] theorem an148 : ann 148 = { vs := [4, 5, 6], keep := [(0, [(1, .v), (5, .v), (6, .v)])] } := by kernel_rfl
@[go_sem] theorem an149 : ann 149 = { vs := [2, 3, 4, 5, 6], keep := [(0, [(2, .v), (3, .v), (4, .v), (6, .v)])] } := by kernel_rfl
@[go_sem] theorem an150 : ann 150 = { vs := [2, 4, 5, 6], keep := [(0, [(1, .v), (2, .v), (4, .v), (5, .v)])] } := by kernel_rfl
@[go_sem] theorem an151 : ann 151 = { vs := [1, 2, 3, 4, 5, 17], keep := [(0, [(1, .v), (2, .v), (3, .v), (4, .v), (17, .v)])] } := by kernel_rfl
@[go_sem] theorem an152 : ann 152 = { vs := [2, 3, 4, 6], keep := [(0, [(3, .v), (4, .v), (6, .v)])] } := by kernel_rfl
@[go_sem] theorem an153 : ann 153 = { vs := [4, 5] } := by kernel_rfl
@[go_sem] theorem an154 : ann 154 = { vs := [2] } := by kernel_rfl
@[go_sem] theorem an0 : ann 0 = {} := by kernel_rfl
@[go_sem] theorem an1 : ann 1 = {} := by kernel_rfl
@[go_sem] theorem an2 : ann 2 = {} := by kernel_rfl
@[go_sem] theorem an155 : ann 155 = {} := by kernel_rfl
@[go_sem] theorem an156 : ann 156 = {} := by kernel_rfl
@[go_sem] theorem an157 : ann 157 = {} := by kernel_rfl
@[go_sem] theorem an158 : ann 158 = {} := by kernel_rfl
@[go_sem] theorem an159 : ann 159 = {} := by kernel_rfl
@[go_sem] theorem an160 : ann 160 = {} := by kernel_rfl
@[go_sem] theorem an161 : ann 161 = {} := by kernel_rfl
@[go_sem] theorem an162 : ann 162 = {} := by kernel_rfl
@[go_sem] theorem an163 : ann 163 = {} := by kernel_rfl
@[go_sem] theorem an164 : ann 164 = {} := by kernel_rfl
@[go_sem] theorem an165 : ann 165 = {} := by kernel_rfl
@[go_sem] theorem an166 : ann 166 = {} := by kernel_rfl
@[go_sem] theorem an167 : ann 167 = {} := by kernel_rfl
@[go_sem] theorem an168 : ann 168 = {} := by kernel_rfl
@[go_sem] theorem an169 : ann 169 = {} := by kernel_rfl
@[go_sem] theorem an170 : ann 170 = {} := by kernel_rfl
@[go_sem] theorem an171 : ann 171 = {} := by kernel_rfl
@[go_sem] theorem an172 : ann 172 = {} := by kernel_rfl
@[go_sem] theorem re2 : Go.Proofs.Try.f2.results.toList = [] := rfl
@[go_sem] theorem re3 : Go.Proofs.Try.f3.results.toList = [.tmp 8] := rfl
@[go_sem] theorem re4 : Go.Proofs.Try.f4.results.toList = [.tmp 6] := rfl
@[go_sem] theorem re5 : Go.Proofs.Try.f5.results.toList = [.tmp 6] := rfl
@[go_sem] theorem re6 : Go.Proofs.Try.f6.results.toList = [.tmp 8] := rfl
@[go_sem] theorem re7 : Go.Proofs.Try.f7.results.toList = [.tmp 2] := rfl
@[go_sem] theorem re8 : Go.Proofs.Try.f8.results.toList = [.tmp 4] := rfl
@[go_sem] theorem re9 : Go.Proofs.Try.f9.results.toList = [.tmp 4] := rfl
@[go_sem] theorem re10 : Go.Proofs.Try.f10.results.toList = [.tmp 8] := rfl
@[go_sem] theorem re11 : Go.Proofs.Try.f11.results.toList = [.tmp 8] := rfl
@[go_sem] theorem re12 : Go.Proofs.Try.f12.results.toList = [.tmp 8, .tmp 9] := rfl
@[go_sem] theorem re13 : Go.Proofs.Try.f13.results.toList = [.tmp 8, .tmp 9] := rfl
@[go_sem] theorem re14 : Go.Proofs.Try.f14.results.toList = [.tmp 6, .tmp 7] := rfl
@[go_sem] theorem re15 : Go.Proofs.Try.f15.results.toList = [.tmp 6, .tmp 7] := rfl
@[go_sem] theorem re16 : Go.Proofs.Try.f16.results.toList = [.tmp 6, .tmp 7] := rfl
@[go_sem] theorem re17 : Go.Proofs.Try.f17.results.toList = [.tmp 6, .tmp 7] := rfl
@[go_sem] theorem re18 : Go.Proofs.Try.f18.results.toList = [.tmp 4] := rfl
@[go_sem] theorem re19 : Go.Proofs.Try.f19.results.toList = [.tmp 4] := rfl
@[go_sem] theorem re20 : Go.Proofs.Try.f20.results.toList = [.tmp 8, .tmp 9] := rfl
@[go_sem] theorem re21 : Go.Proofs.Try.f21.results.toList = [.cell 2 35] := rfl
@[go_sem] theorem re22 : Go.Proofs.Try.f22.results.toList = [.tmp 2] := rfl
@[go_sem] theorem re23 : Go.Proofs.Try.f23.results.toList = [.tmp 8, .tmp 9] := rfl
@[go_sem] theorem re24 : Go.Proofs.Try.f24.results.toList = [.tmp 4] := rfl
@[go_sem] theorem re25 : Go.Proofs.Try.f25.results.toList = [.tmp 4] := rfl
@[go_sem] theorem re26 : Go.Proofs.Try.f26.results.toList = [.tmp 2, .tmp 3] := rfl
@[go_sem] theorem re27 : Go.Proofs.Try.f27.results.toList = [.tmp 2] := rfl
@[go_sem] theorem re28 : Go.Proofs.Try.f28.results.toList = [.tmp 2, .tmp 3] := rfl
@[go_sem] theorem re29 : Go.Proofs.Try.f29.results.toList = [.tmp 4] := rfl
@[go_sem] theorem re30 : Go.Proofs.Try.f30.results.toList = [.tmp 4, .tmp 5] := rfl
@[go_sem] theorem re31 : Go.Proofs.Try.f31.results.toList = [.tmp 4, .tmp 5] := rfl
@[go_sem] theorem re32 : Go.Proofs.Try.f32.results.toList = [.tmp 4] := rfl
@[go_sem] theorem re33 : Go.Proofs.Try.f33.results.toList = [.tmp 4] := rfl
@[go_sem] theorem re34 : Go.Proofs.Try.f34.results.toList = [.tmp 4] := rfl
@[go_sem] theorem re35 : Go.Proofs.Try.f35.results.toList = [.tmp 2] := rfl
@[go_sem] theorem re36 : Go.Proofs.Try.f36.results.toList = [.cell 2 35] := rfl
@[go_sem] theorem re37 : Go.Proofs.Try.f37.results.toList = [.tmp 6] := rfl
@[go_sem] theorem re38 : Go.Proofs.Try.f38.results.toList = [.tmp 4] := rfl
@[go_sem] theorem re39 : Go.Proofs.Try.f39.results.toList = [.tmp 2] := rfl
@[go_sem] theorem re40 : Go.Proofs.Try.f40.results.toList = [.tmp 2] := rfl
@[go_sem] theorem re41 : Go.Proofs.Try.f41.results.toList = [.tmp 6, .tmp 7] := rfl
@[go_sem] theorem re42 : Go.Proofs.Try.f42.results.toList = [.tmp 8, .tmp 9] := rfl
@[go_sem] theorem re43 : Go.Proofs.Try.f43.results.toList = [.tmp 8, .tmp 9] := rfl
@[go_sem] theorem re44 : Go.Proofs.Try.f44.results.toList = [.tmp 8, .tmp 9] := rfl
@[go_sem] theorem re45 : Go.Proofs.Try.f45.results.toList = [.tmp 8, .tmp 9] := rfl
@[go_sem] theorem re46 : Go.Proofs.Try.f46.results.toList = [.tmp 6] := rfl
@[go_sem] theorem re47 : Go.Proofs.Try.f47.results.toList = [.tmp 8] := rfl
@[go_sem] theorem re48 : Go.Proofs.Try.f48.results.toList = [.tmp 2] := rfl
@[go_sem] theorem re49 : Go.Proofs.Try.f49.results.toList = [.tmp 2] := rfl
@[go_sem] theorem re50 : Go.Proofs.Try.f50.results.toList = [.tmp 2] := rfl
@[go_sem] theorem re51 : Go.Proofs.Try.f51.results.toList = [.tmp 4] := rfl
@[go_sem] theorem re52 : Go.Proofs.Try.f52.results.toList = [.tmp 4] := rfl
@[go_sem] theorem re53 : Go.Proofs.Try.f53.results.toList = [.tmp 6] := rfl
@[go_sem] theorem re54 : Go.Proofs.Try.f54.results.toList = [.tmp 2] := rfl
@[go_sem] theorem re55 : Go.Proofs.Try.f55.results.toList = [.tmp 6] := rfl
@[go_sem] theorem re56 : Go.Proofs.Try.f56.results.toList = [.tmp 6] := rfl
@[go_sem] theorem re57 : Go.Proofs.Try.f57.results.toList = [.tmp 6] := rfl
@[go_sem] theorem re58 : Go.Proofs.Try.f58.results.toList = [.tmp 2] := rfl
@[go_sem] theorem re59 : Go.Proofs.Try.f59.results.toList = [.tmp 6] := rfl
@[go_sem] theorem re60 : Go.Proofs.Try.f60.results.toList = [.tmp 2] := rfl
@[go_sem] theorem re61 : Go.Proofs.Try.f61.results.toList = [.tmp 8, .tmp 9] := rfl
@[go_sem] theorem re62 : Go.Proofs.Try.f62.results.toList = [.tmp 2] := rfl
@[go_sem] theorem re63 : Go.Proofs.Try.f63.results.toList = [.tmp 2] := rfl
@[go_sem] theorem re64 : Go.Proofs.Try.f64.results.toList = [.tmp 2] := rfl
@[go_sem] theorem re65 : Go.Proofs.Try.f65.results.toList = [.tmp 4] := rfl
@[go_sem] theorem re66 : Go.Proofs.Try.f66.results.toList = [.tmp 2] := rfl
@[go_sem] theorem re67 : Go.Proofs.Try.f67.results.toList = [.tmp 8, .tmp 9] := rfl
@[go_sem] theorem re68 : Go.Proofs.Try.f68.results.toList = [.tmp 2] := rfl
@[go_sem] theorem re69 : Go.Proofs.Try.f69.results.toList = [.tmp 2] := rfl
@[go_sem] theorem re70 : Go.Proofs.Try.f70.results.toList = [.tmp 2] := rfl
@[go_sem] theorem re71 : Go.Proofs.Try.f71.results.toList = [.tmp 2] := rfl
@[go_sem] theorem re72 : Go.Proofs.Try.f72.results.toList = [.tmp 4] := rfl
@[go_sem] theorem re73 : Go.Proofs.Try.f73.results.toList = [.tmp 4] := rfl
@[go_sem] theorem re74 : Go.Proofs.Try.f74.results.toList = [.tmp 4] := rfl
@[go_sem] theorem re75 : Go.Proofs.Try.f75.results.toList = [.tmp 2] := rfl
@[go_sem] theorem re76 : Go.Proofs.Try.f76.results.toList = [.tmp 2] := rfl
@[go_sem] theorem re77 : Go.Proofs.Try.f77.results.toList = [.tmp 2] := rfl
@[go_sem] theorem re78 : Go.Proofs.Try.f78.results.toList = [.cell 2 35] := rfl
@[go_sem] theorem re79 : Go.Proofs.Try.f79.results.toList = [.tmp 4] := rfl
@[go_sem] theorem re80 : Go.Proofs.Try.f80.results.toList = [.tmp 2] := rfl
@[go_sem] theorem re81 : Go.Proofs.Try.f81.results.toList = [.tmp 2] := rfl
@[go_sem] theorem re82 : Go.Proofs.Try.f82.results.toList = [.tmp 6] := rfl
@[go_sem] theorem re83 : Go.Proofs.Try.f83.results.toList = [.tmp 8] := rfl
@[go_sem] theorem re84 : Go.Proofs.Try.f84.results.toList = [.tmp 6] := rfl
@[go_sem] theorem re85 : Go.Proofs.Try.f85.results.toList = [.tmp 2] := rfl
@[go_sem] theorem re86 : Go.Proofs.Try.f86.results.toList = [.tmp 8] := rfl
@[go_sem] theorem re87 : Go.Proofs.Try.f87.results.toList = [.tmp 8, .tmp 9] := rfl
@[go_sem] theorem re88 : Go.Proofs.Try.f88.results.toList = [.tmp 8, .tmp 9] := rfl
@[go_sem] theorem re89 : Go.Proofs.Try.f89.results.toList = [.tmp 4] := rfl
@[go_sem] theorem re90 : Go.Proofs.Try.f90.results.toList = [.tmp 2] := rfl
@[go_sem] theorem re91 : Go.Proofs.Try.f91.results.toList = [.tmp 4] := rfl
@[go_sem] theorem re92 : Go.Proofs.Try.f92.results.toList = [.tmp 2] := rfl
@[go_sem] theorem re93 : Go.Proofs.Try.f93.results.toList = [.tmp 2] := rfl
@[go_sem] theorem re94 : Go.Proofs.Try.f94.results.toList = [.tmp 4] := rfl
@[go_sem] theorem re95 : Go.Proofs.Try.f95.results.toList = [.tmp 4] := rfl
@[go_sem] theorem re96 : Go.Proofs.Try.f96.results.toList = [.tmp 3] := rfl
@[go_sem] theorem re97 : Go.Proofs.Try.f97.results.toList = [.tmp 2] := rfl
@[go_sem] theorem re98 : Go.Proofs.Try.f98.results.toList = [.tmp 4] := rfl
@[go_sem] theorem re99 : Go.Proofs.Try.f99.results.toList = [.tmp 2] := rfl
@[go_sem] theorem re100 : Go.Proofs.Try.f100.results.toList = [.tmp 4] := rfl
@[go_sem] theorem re101 : Go.Proofs.Try.f101.results.toList = [.tmp 2] := rfl
@[go_sem] theorem re102 : Go.Proofs.Try.f102.results.toList = [.tmp 4] := rfl
@[go_sem] theorem re103 : Go.Proofs.Try.f103.results.toList = [.tmp 3] := rfl
@[go_sem] theorem re104 : Go.Proofs.Try.f104.results.toList = [.tmp 0] := rfl
@[go_sem] theorem re105 : Go.Proofs.Try.f105.results.toList = [] := rfl
@[go_sem] theorem re106 : Go.Proofs.Try.f106.results.toList = [.tmp 8] := rfl
@[go_sem] theorem re107 : Go.Proofs.Try.f107.results.toList = [.tmp 4] := rfl
@[go_sem] theorem re108 : Go.Proofs.Try.f108.results.toList = [.tmp 2] := rfl
@[go_sem] theorem re109 : Go.Proofs.Try.f109.results.toList = [.tmp 8] := rfl
@[go_sem] theorem re110 : Go.Proofs.Try.f110.results.toList = [.tmp 4] := rfl
@[go_sem] theorem re111 : Go.Proofs.Try.f111.results.toList = [.tmp 8, .tmp 9] := rfl
@[go_sem] theorem re112 : Go.Proofs.Try.f112.results.toList = [.tmp 8, .tmp 9] := rfl
@[go_sem] theorem re113 : Go.Proofs.Try.f113.results.toList = [.tmp 4] := rfl
@[go_sem] theorem re114 : Go.Proofs.Try.f114.results.toList = [.cell 0 112] := rfl
@[go_sem] theorem re115 : Go.Proofs.Try.f115.results.toList = [.tmp 4] := rfl
@[go_sem] theorem re116 : Go.Proofs.Try.f116.results.toList = [.cell 6 111] := rfl
@[go_sem] theorem re117 : Go.Proofs.Try.f117.results.toList = [.cell 2 112] := rfl
@[go_sem] theorem re118 : Go.Proofs.Try.f118.results.toList = [.tmp 2] := rfl
@[go_sem] theorem re119 : Go.Proofs.Try.f119.results.toList = [.tmp 4] := rfl
@[go_sem] theorem re120 : Go.Proofs.Try.f120.results.toList = [.tmp 4] := rfl
@[go_sem] theorem re121 : Go.Proofs.Try.f121.results.toList = [.tmp 2, .tmp 3] := rfl
@[go_sem] theorem re122 : Go.Proofs.Try.f122.results.toList = [.tmp 6] := rfl
@[go_sem] theorem re123 : Go.Proofs.Try.f123.results.toList = [.tmp 8] := rfl
@[go_sem] theorem re124 : Go.Proofs.Try.f124.results.toList = [.tmp 2, .tmp 3] := rfl
@[go_sem] theorem re125 : Go.Proofs.Try.f125.results.toList = [.tmp 6] := rfl
@[go_sem] theorem re126 : Go.Proofs.Try.f126.results.toList = [.tmp 8] := rfl
@[go_sem] theorem re127 : Go.Proofs.Try.f127.results.toList = [] := rfl
@[go_sem] theorem re128 : Go.Proofs.Try.f128.results.toList = [.tmp 4] := rfl
@[go_sem] theorem re129 : Go.Proofs.Try.f129.results.toList = [.tmp 6] := rfl
@[go_sem] theorem re130 : Go.Proofs.Try.f130.results.toList = [.tmp 0] := rfl
@[go_sem] theorem re131 : Go.Proofs.Try.f131.results.toList = [.tmp 4] := rfl
@[go_sem] theorem re132 : Go.Proofs.Try.f132.results.toList = [.tmp 6] := rfl
@[go_sem] theorem re133 : Go.Proofs.Try.f133.results.toList = [.tmp 6] := rfl
@[go_sem] theorem re134 : Go.Proofs.Try.f134.results.toList = [.tmp 2] := rfl
@[go_sem] theorem re135 : Go.Proofs.Try.f135.results.toList = [.tmp 2] := rfl
@[go_sem] theorem re136 : Go.Proofs.Try.f136.results.toList = [.cell 4 137] := rfl
@[go_sem] theorem re137 : Go.Proofs.Try.f137.results.toList = [.tmp 4] := rfl
@[go_sem] theorem re138 : Go.Proofs.Try.f138.results.toList = [.tmp 2] := rfl
@[go_sem] theorem re139 : Go.Proofs.Try.f139.results.toList = [.tmp 2] := rfl
@[go_sem] theorem re140 : Go.Proofs.Try.f140.results.toList = [.tmp 4] := rfl
@[go_sem] theorem re141 : Go.Proofs.Try.f141.results.toList = [.tmp 2] := rfl
@[go_sem] theorem re142 : Go.Proofs.Try.f142.results.toList = [] := rfl
@[go_sem] theorem re143 : Go.Proofs.Try.f143.results.toList = [] := rfl
@[go_sem] theorem re144 : Go.Proofs.Try.f144.results.toList = [.tmp 4] := rfl
@[go_sem] theorem re145 : Go.Proofs.Try.f145.results.toList = [.tmp 2] := rfl
@[go_sem] theorem re146 : Go.Proofs.Try.f146.results.toList = [.tmp 2] := rfl
@[go_sem] theorem re147 : Go.Proofs.Try.f147.results.toList = [.tmp 2] := rfl
@[go_sem] theorem re148 : Go.Proofs.Try.f148.results.toList = [.tmp 4] := rfl
@[go_sem] theorem re149 : Go.Proofs.Try.f149.results.toList = [.cell 4 137] := rfl
@[go_sem] theorem re150 : Go.Proofs.Try.f150.results.toList = [.cell 4 137] := rfl
@[go_sem] theorem re151 : Go.Proofs.Try.f151.results.toList = [.cell 2 152] := rfl
@[go_sem] theorem re152 : Go.Proofs.Try.f152.results.toList = [.tmp 2] := rfl
@[go_sem] theorem re153 : Go.Proofs.Try.f153.results.toList = [.tmp 4] := rfl
@[go_sem] theorem re154 : Go.Proofs.Try.f154.results.toList = [.tmp 2] := rfl
end Go.Proofs.Ytdbfmcgdmnbabaa.Ev
