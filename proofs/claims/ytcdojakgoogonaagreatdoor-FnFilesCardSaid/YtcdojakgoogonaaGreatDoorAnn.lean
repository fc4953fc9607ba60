/- Annotations of the functions, and facts of types, by gen.py. No condition. -/
import Derived.Test.YtcdojakgoogonaaGreatDoorEvStep
import Derived.Test.YtcdojakgoogonaaGreatDoorEvCore
import Derived.Test.YtcdojakgoogonaaGreatDoorProg
namespace Go.Proofs.YtcdojakgoogonaaGreatDoor.Ev
open Go
def annL : List (Nat × Ann) := [
  (3, { vs := [4, 5, 6, 7, 8, 9, 10, 11, 12, 13, 14, 15, 16, 17, 18, 19, 20, 21, 22, 23, 24, 25], keep := [(0, [(5, .v), (6, .v), (7, .v), (9, .v), (17, .v), (19, .v)]), (2, [(5, .v), (6, .v), (7, .v), (9, .v), (17, .v), (19, .v), (20, .v), (21, .v)])] }),
  (4, { vs := [4, 5, 6, 7, 8, 9, 10, 11, 12, 13, 14, 15, 16], keep := [(0, [(5, .v), (6, .v), (7, .v), (8, .v), (12, .v), (13, .v)]), (2, [(5, .v), (6, .v), (7, .v), (8, .v), (12, .v), (14, .v)])] }),
  (5, { vs := [4, 5, 6, 7, 8, 9, 10, 11, 12, 13, 14, 15, 16, 17, 18, 19, 20, 21, 22, 23, 25, 26, 27, 28, 29] }),
  (6, { vs := [2] }),
  (7, { vs := [2] }),
  (8, { vs := [6] }),
  (9, { vs := [2] }),
  (10, { vs := [8, 9, 10, 11, 12] }),
  (11, { vs := [8, 9, 10, 11, 12] }),
  (12, { vs := [4, 5], keep := [(0, [(0, .v), (1, .v), (5, .v)])] }),
  (13, { vs := [1, 2, 3, 4, 5, 6, 7], keep := [(0, [(1, .v), (5, .v), (6, .v), (7, .v)])] }),
  (14, { vs := [8, 9, 10, 11, 12, 13] }),
  (15, { vs := [6, 7, 8, 9, 10] }),
  (16, { vs := [6, 7, 8, 9, 10] }),
  (17, { vs := [6, 7, 8, 9, 10] }),
  (18, { vs := [4, 5, 6, 7, 8] }),
  (19, { vs := [4, 5, 6, 7, 8] }),
  (20, { vs := [4, 5, 6, 7, 8] }),
  (21, { vs := [4, 5, 6, 7, 8] }),
  (22, { vs := [4, 5, 6, 7, 8, 9, 10, 12, 13, 46, 47, 48], keep := [(0, [(1, .v), (10, .o 1 true), (46, .v), (47, .v), (48, .v)])] }),
  (23, { vs := [2, 3] }),
  (24, { vs := [4, 5] }),
  (25, { vs := [4, 5], keep := [(0, [(0, .v), (1, .v), (5, .v)])] }),
  (26, { vs := [2] }),
  (27, { vs := [2] }),
  (28, { vs := [2, 3, 4, 5, 19], keep := [(0, [(0, .v), (3, .v), (4, .v)]), (3000000, [(3, .v)])], modes := [.l] }),
  (29, { vs := [2, 3, 12], modes := [.l] }),
  (30, { vs := [2], modes := [.l] }),
  (31, { vs := [2] }),
  (32, { vs := [4] }),
  (33, { vs := [8, 9, 10, 11, 12, 13, 14] }),
  (34, { vs := [6, 7], modes := [.b, .m] }),
  (35, { vs := [4] }),
  (36, { vs := [8, 9, 10, 11, 12, 13, 14], keep := [(0, [(0, .v), (2, .v), (3, .v), (11, .v), (13, .o 1 true)]), (2, [(0, .v), (2, .v), (3, .v), (11, .v), (13, .v), (14, .v)])] }),
  (37, { vs := [3, 4] }),
  (38, { vs := [2, 3] }),
  (39, { vs := [4, 5, 6, 7] }),
  (40, { vs := [4, 5, 6, 7] }),
  (41, { vs := [6, 7, 8, 9, 10] }),
  (42, { vs := [6, 7, 8, 9, 10, 11, 12, 13, 15, 62, 63, 64], keep := [(1, [(1, .v), (2, .v), (13, .o 3 true), (62, .v), (63, .v), (64, .v)])] }),
  (43, { vs := [2, 3, 4], keep := [(0, [(3, .v), (4, .v)])] }),
  (44, { vs := [6, 7, 8, 9, 10, 11, 12, 13, 14, 15], keep := [(1, [(0, .v), (1, .v), (2, .v), (11, .o 3 true), (12, .o 3 true), (13, .v)]), (4, [(11, .o 3 true), (12, .v), (15, .v)])] }),
  (45, { vs := [4, 5, 6, 7, 8] }),
  (46, { vs := [4, 5, 6] }),
  (47, { vs := [3, 4, 5, 6, 7] }),
  (48, { vs := [4, 5, 6, 7], keep := [(0, [(0, .v), (1, .v), (6, .v), (7, .v)]), (1000009, [])] }),
  (49, { vs := [4, 5] }),
  (50, { vs := [2] }),
  (51, { vs := [4, 5] }),
  (52, { vs := [2] }),
  (53, { vs := [4, 5, 12, 13], keep := [(0, [(0, .v), (1, .v), (12, .v), (13, .v)])] }),
  (54, { vs := [3, 4] }),
  (55, { vs := [4] }),
  (56, { vs := [2, 3, 4, 5, 7, 8], keep := [(0, [(0, .v), (7, .v), (8, .v)])] }),
  (57, { vs := [4, 5, 6, 7], modes := [.l] }),
  (58, { vs := [4] }),
  (59, { vs := [2], modes := [.l] }),
  (60, { vs := [4], modes := [.l] }),
  (61, { vs := [6, 7, 8, 9, 10, 11] }),
  (62, { vs := [4] }),
  (63, { vs := [2] }),
  (64, { vs := [6] }),
  (65, { vs := [2] }),
  (66, { vs := [4, 5] }),
  (67, { vs := [6, 7, 8, 9], modes := [.m, .b, .m] }),
  (68, { vs := [4] }),
  (69, { vs := [2, 3, 4], keep := [(0, [(0, .v), (3, .v)])] }),
  (70, { vs := [4, 5], keep := [(0, [(0, .v), (1, .v), (5, .v)])] }),
  (71, { vs := [4, 5] }),
  (72, { vs := [3, 4, 5, 6, 7], keep := [(0, [(0, .v), (3, .v), (5, .o 3 true), (6, .v), (7, .v)])] }),
  (73, { vs := [4] }),
  (74, { vs := [2, 3] }),
  (75, { vs := [4] }),
  (76, { vs := [4], modes := [.l] }),
  (77, { vs := [2, 3, 4] }),
  (78, { vs := [4] }),
  (79, { vs := [4, 5, 6, 7], keep := [(0, [(0, .v), (1, .v), (5, .o 1 true), (6, .v), (7, .v)])] }),
  (80, { vs := [2] }),
  (81, { vs := [4] }),
  (82, { vs := [4, 5] }),
  (83, { vs := [2, 3], keep := [(0, [(0, .v), (3, .v)])] }),
  (84, { vs := [2, 3] }),
  (85, { vs := [6, 7], modes := [.m] }),
  (86, { vs := [6, 7, 8, 9, 10, 11], keep := [(0, [(0, .v), (1, .v), (2, .v), (8, .v), (9, .v), (10, .v)])] }),
  (87, { vs := [2, 4] }),
  (88, { vs := [4, 5], keep := [(0, [(0, .v), (1, .v), (5, .v)])] }),
  (89, { vs := [4, 5, 6, 7, 8, 9, 10, 11], keep := [(0, [(0, .v), (1, .v), (5, .v), (6, .v), (7, .v), (8, .v), (9, .v), (10, .v)]), (2, [(0, .v), (1, .v), (5, .v), (6, .v), (7, .v), (9, .v), (11, .v)])] }),
  (90, { vs := [3] }),
  (91, { vs := [8, 9, 10, 11], keep := [(0, [(0, .v), (1, .v), (2, .v), (3, .v), (9, .v), (10, .v)])] }),
  (92, { vs := [2], modes := [.l] }),
  (93, { vs := [4, 5, 6] }),
  (94, { vs := [6] }),
  (95, { vs := [4, 5, 7, 8], keep := [(0, [(0, .v), (1, .v), (7, .v), (8, .v)])] }),
  (98, { vs := [4, 5, 6, 7, 8, 9, 10, 11, 42], keep := [(3, [(7, .v), (8, .v), (9, .v)])] }),
  (99, { vs := [4, 5, 7, 8], keep := [(0, [(0, .v), (1, .v), (7, .v), (8, .v)])] }),
  (100, { vs := [4] }),
  (101, { vs := [10, 11, 12, 13, 14, 15, 16, 17, 18, 19, 20], keep := [(0, [(0, .v), (1, .v), (2, .v), (3, .v), (4, .v), (10, .v), (11, .v)])], modes := [.l] }),
  (102, { vs := [2] }),
  (103, { vs := [4] }),
  (104, { vs := [2, 3], keep := [(0, [(0, .v), (3, .v)])] }),
  (105, { vs := [2, 3, 4, 5, 6, 7, 8], keep := [(0, [(0, .v), (4, .v), (5, .v)]), (2, [(4, .v), (6, .v), (7, .v), (8, .v)])] }),
  (106, { vs := [4, 5, 6, 7, 9], keep := [(0, [(0, .v), (1, .v), (6, .v), (7, .v)])] }),
  (107, { vs := [4, 5, 6], keep := [(0, [(0, .v), (1, .v), (5, .v)])] }),
  (108, { vs := [4] }),
  (110, { vs := [4, 5, 6, 7, 8, 9] }),
  (112, { vs := [4, 5] }),
  (113, { vs := [2] }),
  (114, { vs := [2] }),
  (115, { vs := [4] }),
  (116, { vs := [8, 9], keep := [(0, [(0, .v), (1, .v), (2, .v), (3, .v), (8, .v)]), (2, [(0, .v), (1, .v), (2, .v), (3, .v), (8, .v), (9, .v)])], modes := [.l] }),
  (117, { vs := [8, 9, 10, 11, 12], keep := [(0, [(0, .v), (3, .v), (8, .v), (9, .v), (10, .v), (11, .v)]), (2, [(0, .v), (3, .v), (8, .v), (9, .v), (12, .v)])], modes := [.l] }),
  (118, { vs := [8, 9, 10, 11, 12], keep := [(0, [(0, .v), (1, .v), (8, .v), (9, .v), (10, .v), (11, .v)])], modes := [.l] }),
  (119, { vs := [8, 9, 10, 11, 12, 13, 14, 55] }),
  (120, { vs := [8, 9], keep := [(0, [(0, .v), (8, .v), (9, .v)])], modes := [.l] }),
  (121, { vs := [8, 9, 10, 11, 12], keep := [(0, [(0, .v), (1, .v), (2, .v), (3, .v), (9, .v), (10, .v)]), (2, [(0, .v), (1, .v), (2, .v), (3, .v), (9, .v), (10, .v)]), (4, [(0, .v), (1, .v), (2, .v), (3, .v), (9, .v), (10, .v), (11, .v)]), (6, [(0, .v), (1, .v), (2, .v), (3, .v), (9, .v), (10, .v), (12, .v)])], modes := [.l] }),
  (122, { vs := [10, 11, 12], keep := [(0, [(0, .v), (1, .v), (4, .v), (11, .v), (12, .v)]), (2, [(0, .v), (1, .v), (4, .v), (11, .v), (12, .v)]), (4, [(0, .v), (1, .v), (4, .v), (11, .v), (12, .v)])], modes := [.l] }),
  (123, { vs := [10, 11, 12, 13], keep := [(0, [(0, .v), (1, .v), (4, .v), (12, .v), (13, .v)]), (2, [(0, .v), (1, .v), (4, .v), (12, .v), (13, .v)]), (4, [(0, .v), (1, .v), (4, .v), (12, .v), (13, .v)]), (6, [(0, .v), (1, .v), (4, .v), (12, .v), (13, .v)]), (8, [(0, .v), (1, .v), (4, .v), (12, .v), (13, .v)])], modes := [.l] }),
  (124, { vs := [2] }),
  (125, { vs := [2] }),
  (127, { vs := [2] }),
  (128, { vs := [2] }),
  (129, { vs := [2, 4], keep := [(0, [(2, .v), (4, .v)])] }),
  (130, { vs := [2, 3] }),
  (132, { vs := [4, 5, 6, 7, 8, 9, 10, 11, 12, 13], keep := [(1, [(0, .v), (1, .v), (5, .v), (6, .v), (7, .v), (8, .v), (9, .v), (10, .v)])] }),
  (133, { vs := [2, 3], keep := [(0, [(0, .v), (2, .v), (3, .v)])] }),
  (134, { vs := [4, 5, 6] }),
  (135, { vs := [4, 5, 6, 7, 8, 9, 10, 11, 12, 13] }),
  (137, { vs := [4] }),
  (138, { vs := [10, 11], keep := [(0, [(0, .v), (2, .v), (3, .v), (4, .v), (10, .v)])], modes := [.l] }),
  (139, { vs := [2] }),
  (140, { vs := [2] }),
  (141, { vs := [8] }),
  (142, { vs := [12] }),
  (143, { vs := [2, 3, 4, 5, 6, 7, 8, 9, 10, 11, 12] }),
  (144, { vs := [4] }),
  (146, { vs := [2] }),
  (147, { vs := [4, 5, 6, 7, 8, 9, 10], keep := [(0, [(0, .v), (1, .v), (5, .v), (6, .v), (7, .v), (8, .v), (9, .v)]), (2, [(0, .v), (1, .v), (5, .v), (6, .v), (7, .v), (8, .v), (10, .v)])] }),
  (150, { vs := [10, 11] }),
  (152, { vs := [2, 3, 4, 5, 6, 7, 8], keep := [(0, [(0, .v), (4, .v), (5, .v)]), (2, [(4, .v), (6, .v), (7, .v), (8, .v)])] })]
def annOf : List (Nat × Ann) → Nat → Ann
  | [], _ => {}
  | (k, a) :: l, f => if k = f then a else annOf l f
def ann (f : FuncId) : Ann := annOf annL f
@[go_sem] theorem ty3 : tyOf Go.Proofs.Tryz.prog 3 = .int .i64 := by kernel_rfl
@[go_sem] theorem sz3 : szOf Go.Proofs.Tryz.prog 3 = 1 := by kernel_rfl
@[go_sem] theorem by3 : byOf Go.Proofs.Tryz.prog 3 = 8 := by kernel_rfl
@[go_sem] theorem kn3 : known Go.Proofs.Tryz.prog 3 = true := by kernel_rfl
@[go_sem] theorem zk3 : zeroOk Go.Proofs.Tryz.prog 3 = true := by kernel_rfl
@[go_sem] theorem ze3 : zeOf Go.Proofs.Tryz.prog 3 = .int .i64 0 := by kernel_rfl
@[go_sem] theorem ty4 : tyOf Go.Proofs.Tryz.prog 4 = .bool := by kernel_rfl
@[go_sem] theorem sz4 : szOf Go.Proofs.Tryz.prog 4 = 1 := by kernel_rfl
@[go_sem] theorem by4 : byOf Go.Proofs.Tryz.prog 4 = 1 := by kernel_rfl
@[go_sem] theorem kn4 : known Go.Proofs.Tryz.prog 4 = true := by kernel_rfl
@[go_sem] theorem zk4 : zeroOk Go.Proofs.Tryz.prog 4 = true := by kernel_rfl
@[go_sem] theorem ze4 : zeOf Go.Proofs.Tryz.prog 4 = .bool false := by kernel_rfl
@[go_sem] theorem ty5 : tyOf Go.Proofs.Tryz.prog 5 = .int .u8 := by kernel_rfl
@[go_sem] theorem sz5 : szOf Go.Proofs.Tryz.prog 5 = 1 := by kernel_rfl
@[go_sem] theorem by5 : byOf Go.Proofs.Tryz.prog 5 = 1 := by kernel_rfl
@[go_sem] theorem kn5 : known Go.Proofs.Tryz.prog 5 = true := by kernel_rfl
@[go_sem] theorem zk5 : zeroOk Go.Proofs.Tryz.prog 5 = true := by kernel_rfl
@[go_sem] theorem ze5 : zeOf Go.Proofs.Tryz.prog 5 = .int .u8 0 := by kernel_rfl
@[go_sem] theorem ty9 : tyOf Go.Proofs.Tryz.prog 9 = .str := by kernel_rfl
@[go_sem] theorem sz9 : szOf Go.Proofs.Tryz.prog 9 = 1 := by kernel_rfl
@[go_sem] theorem by9 : byOf Go.Proofs.Tryz.prog 9 = 16 := by kernel_rfl
@[go_sem] theorem kn9 : known Go.Proofs.Tryz.prog 9 = true := by kernel_rfl
@[go_sem] theorem zk9 : zeroOk Go.Proofs.Tryz.prog 9 = true := by kernel_rfl
@[go_sem] theorem ze9 : zeOf Go.Proofs.Tryz.prog 9 = .str [] := by kernel_rfl
@[go_sem] theorem ty21 : tyOf Go.Proofs.Tryz.prog 21 = .int .i32 := by kernel_rfl
@[go_sem] theorem sz21 : szOf Go.Proofs.Tryz.prog 21 = 1 := by kernel_rfl
@[go_sem] theorem by21 : byOf Go.Proofs.Tryz.prog 21 = 4 := by kernel_rfl
@[go_sem] theorem kn21 : known Go.Proofs.Tryz.prog 21 = true := by kernel_rfl
@[go_sem] theorem zk21 : zeroOk Go.Proofs.Tryz.prog 21 = true := by kernel_rfl
@[go_sem] theorem ze21 : zeOf Go.Proofs.Tryz.prog 21 = .int .i32 0 := by kernel_rfl
@[go_sem] theorem ty22 : tyOf Go.Proofs.Tryz.prog 22 = .slice 5 := by kernel_rfl
@[go_sem] theorem sz22 : szOf Go.Proofs.Tryz.prog 22 = 1 := by kernel_rfl
@[go_sem] theorem by22 : byOf Go.Proofs.Tryz.prog 22 = 24 := by kernel_rfl
@[go_sem] theorem kn22 : known Go.Proofs.Tryz.prog 22 = true := by kernel_rfl
@[go_sem] theorem zk22 : zeroOk Go.Proofs.Tryz.prog 22 = true := by kernel_rfl
@[go_sem] theorem ze22 : zeOf Go.Proofs.Tryz.prog 22 = .nils := by kernel_rfl
@[go_sem] theorem ty23 : tyOf Go.Proofs.Tryz.prog 23 = .slice 37 := by kernel_rfl
@[go_sem] theorem sz23 : szOf Go.Proofs.Tryz.prog 23 = 1 := by kernel_rfl
@[go_sem] theorem by23 : byOf Go.Proofs.Tryz.prog 23 = 24 := by kernel_rfl
@[go_sem] theorem kn23 : known Go.Proofs.Tryz.prog 23 = true := by kernel_rfl
@[go_sem] theorem zk23 : zeroOk Go.Proofs.Tryz.prog 23 = true := by kernel_rfl
@[go_sem] theorem ze23 : zeOf Go.Proofs.Tryz.prog 23 = .nils := by kernel_rfl
@[go_sem] theorem ty26 : tyOf Go.Proofs.Tryz.prog 26 = .strct [(0, 3), (1, 3), (2, 3), (3, 9), (4, 9), (5, 9)] := by kernel_rfl
@[go_sem] theorem sz26 : szOf Go.Proofs.Tryz.prog 26 = 6 := by kernel_rfl
@[go_sem] theorem by26 : byOf Go.Proofs.Tryz.prog 26 = 72 := by kernel_rfl
@[go_sem] theorem kn26 : known Go.Proofs.Tryz.prog 26 = true := by kernel_rfl
@[go_sem] theorem zk26 : zeroOk Go.Proofs.Tryz.prog 26 = true := by kernel_rfl
@[go_sem] theorem ze26 : zeOf Go.Proofs.Tryz.prog 26 = .agg [.int .i64 0, .int .i64 0, .int .i64 0, .str [], .str [], .str []] := by kernel_rfl
@[go_sem] theorem fl26_0 : fldOf Go.Proofs.Tryz.prog 26 0 = some (0, 1, false) := by kernel_rfl
@[go_sem] theorem fl26_1 : fldOf Go.Proofs.Tryz.prog 26 1 = some (1, 1, false) := by kernel_rfl
@[go_sem] theorem fl26_2 : fldOf Go.Proofs.Tryz.prog 26 2 = some (2, 1, false) := by kernel_rfl
@[go_sem] theorem fl26_3 : fldOf Go.Proofs.Tryz.prog 26 3 = some (3, 1, false) := by kernel_rfl
@[go_sem] theorem fl26_4 : fldOf Go.Proofs.Tryz.prog 26 4 = some (4, 1, false) := by kernel_rfl
@[go_sem] theorem fl26_5 : fldOf Go.Proofs.Tryz.prog 26 5 = some (5, 1, false) := by kernel_rfl
@[go_sem] theorem ft26 : flatTy Go.Proofs.Tryz.prog 26 = true := by kernel_rfl
@[go_sem] theorem ty37 : tyOf Go.Proofs.Tryz.prog 37 = .strct [(0, 9), (1, 4), (2, 9)] := by kernel_rfl
@[go_sem] theorem sz37 : szOf Go.Proofs.Tryz.prog 37 = 3 := by kernel_rfl
@[go_sem] theorem by37 : byOf Go.Proofs.Tryz.prog 37 = 40 := by kernel_rfl
@[go_sem] theorem kn37 : known Go.Proofs.Tryz.prog 37 = true := by kernel_rfl
@[go_sem] theorem zk37 : zeroOk Go.Proofs.Tryz.prog 37 = true := by kernel_rfl
@[go_sem] theorem ze37 : zeOf Go.Proofs.Tryz.prog 37 = .agg [.str [], .bool false, .str []] := by kernel_rfl
@[go_sem] theorem fl37_0 : fldOf Go.Proofs.Tryz.prog 37 0 = some (0, 1, false) := by kernel_rfl
@[go_sem] theorem fl37_1 : fldOf Go.Proofs.Tryz.prog 37 1 = some (1, 1, false) := by kernel_rfl
@[go_sem] theorem fl37_2 : fldOf Go.Proofs.Tryz.prog 37 2 = some (2, 1, false) := by kernel_rfl
@[go_sem] theorem ft37 : flatTy Go.Proofs.Tryz.prog 37 = true := by kernel_rfl
@[go_sem] theorem ty42 : tyOf Go.Proofs.Tryz.prog 42 = .slice 9 := by kernel_rfl
@[go_sem] theorem sz42 : szOf Go.Proofs.Tryz.prog 42 = 1 := by kernel_rfl
@[go_sem] theorem by42 : byOf Go.Proofs.Tryz.prog 42 = 24 := by kernel_rfl
@[go_sem] theorem kn42 : known Go.Proofs.Tryz.prog 42 = true := by kernel_rfl
@[go_sem] theorem zk42 : zeroOk Go.Proofs.Tryz.prog 42 = true := by kernel_rfl
@[go_sem] theorem ze42 : zeOf Go.Proofs.Tryz.prog 42 = .nils := by kernel_rfl
@[go_sem] theorem ty49 : tyOf Go.Proofs.Tryz.prog 49 = .func := by kernel_rfl
@[go_sem] theorem sz49 : szOf Go.Proofs.Tryz.prog 49 = 1 := by kernel_rfl
@[go_sem] theorem by49 : byOf Go.Proofs.Tryz.prog 49 = 8 := by kernel_rfl
@[go_sem] theorem kn49 : known Go.Proofs.Tryz.prog 49 = true := by kernel_rfl
@[go_sem] theorem zk49 : zeroOk Go.Proofs.Tryz.prog 49 = true := by kernel_rfl
@[go_sem] theorem ze49 : zeOf Go.Proofs.Tryz.prog 49 = .nilf := by kernel_rfl
@[go_sem] theorem ty50 : tyOf Go.Proofs.Tryz.prog 50 = .ptr 70 := by kernel_rfl
@[go_sem] theorem sz50 : szOf Go.Proofs.Tryz.prog 50 = 1 := by kernel_rfl
@[go_sem] theorem by50 : byOf Go.Proofs.Tryz.prog 50 = 8 := by kernel_rfl
@[go_sem] theorem kn50 : known Go.Proofs.Tryz.prog 50 = true := by kernel_rfl
@[go_sem] theorem zk50 : zeroOk Go.Proofs.Tryz.prog 50 = true := by kernel_rfl
@[go_sem] theorem ze50 : zeOf Go.Proofs.Tryz.prog 50 = .undef := by kernel_rfl
@[go_sem] theorem ty60 : tyOf Go.Proofs.Tryz.prog 60 = .func := by kernel_rfl
@[go_sem] theorem sz60 : szOf Go.Proofs.Tryz.prog 60 = 1 := by kernel_rfl
@[go_sem] theorem by60 : byOf Go.Proofs.Tryz.prog 60 = 8 := by kernel_rfl
@[go_sem] theorem kn60 : known Go.Proofs.Tryz.prog 60 = true := by kernel_rfl
@[go_sem] theorem zk60 : zeroOk Go.Proofs.Tryz.prog 60 = true := by kernel_rfl
@[go_sem] theorem ze60 : zeOf Go.Proofs.Tryz.prog 60 = .nilf := by kernel_rfl
@[go_sem] theorem ty70 : tyOf Go.Proofs.Tryz.prog 70 = .strct [(0, 22), (1, 3), (2, 3)] := by kernel_rfl
@[go_sem] theorem sz70 : szOf Go.Proofs.Tryz.prog 70 = 3 := by kernel_rfl
@[go_sem] theorem by70 : byOf Go.Proofs.Tryz.prog 70 = 40 := by kernel_rfl
@[go_sem] theorem kn70 : known Go.Proofs.Tryz.prog 70 = true := by kernel_rfl
@[go_sem] theorem zk70 : zeroOk Go.Proofs.Tryz.prog 70 = true := by kernel_rfl
@[go_sem] theorem ze70 : zeOf Go.Proofs.Tryz.prog 70 = .agg [.nils, .int .i64 0, .int .i64 0] := by kernel_rfl
@[go_sem] theorem fl70_0 : fldOf Go.Proofs.Tryz.prog 70 0 = some (0, 1, false) := by kernel_rfl
@[go_sem] theorem fl70_1 : fldOf Go.Proofs.Tryz.prog 70 1 = some (1, 1, false) := by kernel_rfl
@[go_sem] theorem fl70_2 : fldOf Go.Proofs.Tryz.prog 70 2 = some (2, 1, false) := by kernel_rfl
@[go_sem] theorem ft70 : flatTy Go.Proofs.Tryz.prog 70 = false := by kernel_rfl
@[go_sem] theorem ty80 : tyOf Go.Proofs.Tryz.prog 80 = .func := by kernel_rfl
@[go_sem] theorem sz80 : szOf Go.Proofs.Tryz.prog 80 = 1 := by kernel_rfl
@[go_sem] theorem by80 : byOf Go.Proofs.Tryz.prog 80 = 8 := by kernel_rfl
@[go_sem] theorem kn80 : known Go.Proofs.Tryz.prog 80 = true := by kernel_rfl
@[go_sem] theorem zk80 : zeroOk Go.Proofs.Tryz.prog 80 = true := by kernel_rfl
@[go_sem] theorem ze80 : zeOf Go.Proofs.Tryz.prog 80 = .nilf := by kernel_rfl
@[go_sem] theorem ty84 : tyOf Go.Proofs.Tryz.prog 84 = .func := by kernel_rfl
@[go_sem] theorem sz84 : szOf Go.Proofs.Tryz.prog 84 = 1 := by kernel_rfl
@[go_sem] theorem by84 : byOf Go.Proofs.Tryz.prog 84 = 8 := by kernel_rfl
@[go_sem] theorem kn84 : known Go.Proofs.Tryz.prog 84 = true := by kernel_rfl
@[go_sem] theorem zk84 : zeroOk Go.Proofs.Tryz.prog 84 = true := by kernel_rfl
@[go_sem] theorem ze84 : zeOf Go.Proofs.Tryz.prog 84 = .nilf := by kernel_rfl
@[go_sem] theorem ty93 : tyOf Go.Proofs.Tryz.prog 93 = .int .u64 := by kernel_rfl
@[go_sem] theorem sz93 : szOf Go.Proofs.Tryz.prog 93 = 1 := by kernel_rfl
@[go_sem] theorem by93 : byOf Go.Proofs.Tryz.prog 93 = 8 := by kernel_rfl
@[go_sem] theorem kn93 : known Go.Proofs.Tryz.prog 93 = true := by kernel_rfl
@[go_sem] theorem zk93 : zeroOk Go.Proofs.Tryz.prog 93 = true := by kernel_rfl
@[go_sem] theorem ze93 : zeOf Go.Proofs.Tryz.prog 93 = .int .u64 0 := by kernel_rfl
@[go_sem] theorem ty94 : tyOf Go.Proofs.Tryz.prog 94 = .int .u32 := by kernel_rfl
@[go_sem] theorem sz94 : szOf Go.Proofs.Tryz.prog 94 = 1 := by kernel_rfl
@[go_sem] theorem by94 : byOf Go.Proofs.Tryz.prog 94 = 4 := by kernel_rfl
@[go_sem] theorem kn94 : known Go.Proofs.Tryz.prog 94 = true := by kernel_rfl
@[go_sem] theorem zk94 : zeroOk Go.Proofs.Tryz.prog 94 = true := by kernel_rfl
@[go_sem] theorem ze94 : zeOf Go.Proofs.Tryz.prog 94 = .int .u32 0 := by kernel_rfl
@[go_sem] theorem ty100 : tyOf Go.Proofs.Tryz.prog 100 = .ptr 102 := by kernel_rfl
@[go_sem] theorem sz100 : szOf Go.Proofs.Tryz.prog 100 = 1 := by kernel_rfl
@[go_sem] theorem by100 : byOf Go.Proofs.Tryz.prog 100 = 8 := by kernel_rfl
@[go_sem] theorem kn100 : known Go.Proofs.Tryz.prog 100 = true := by kernel_rfl
@[go_sem] theorem zk100 : zeroOk Go.Proofs.Tryz.prog 100 = true := by kernel_rfl
@[go_sem] theorem ze100 : zeOf Go.Proofs.Tryz.prog 100 = .undef := by kernel_rfl
@[go_sem] theorem ty102 : tyOf Go.Proofs.Tryz.prog 102 = .strct [(0, 100), (1, 22)] := by kernel_rfl
@[go_sem] theorem sz102 : szOf Go.Proofs.Tryz.prog 102 = 2 := by kernel_rfl
@[go_sem] theorem by102 : byOf Go.Proofs.Tryz.prog 102 = 32 := by kernel_rfl
@[go_sem] theorem kn102 : known Go.Proofs.Tryz.prog 102 = true := by kernel_rfl
@[go_sem] theorem zk102 : zeroOk Go.Proofs.Tryz.prog 102 = true := by kernel_rfl
@[go_sem] theorem ze102 : zeOf Go.Proofs.Tryz.prog 102 = .agg [.undef, .nils] := by kernel_rfl
@[go_sem] theorem fl102_0 : fldOf Go.Proofs.Tryz.prog 102 0 = some (0, 1, false) := by kernel_rfl
@[go_sem] theorem fl102_1 : fldOf Go.Proofs.Tryz.prog 102 1 = some (1, 1, false) := by kernel_rfl
@[go_sem] theorem ft102 : flatTy Go.Proofs.Tryz.prog 102 = false := by kernel_rfl
@[go_sem] theorem ty109 : tyOf Go.Proofs.Tryz.prog 109 = .int .i64 := by kernel_rfl
@[go_sem] theorem sz109 : szOf Go.Proofs.Tryz.prog 109 = 1 := by kernel_rfl
@[go_sem] theorem by109 : byOf Go.Proofs.Tryz.prog 109 = 8 := by kernel_rfl
@[go_sem] theorem kn109 : known Go.Proofs.Tryz.prog 109 = true := by kernel_rfl
@[go_sem] theorem zk109 : zeroOk Go.Proofs.Tryz.prog 109 = true := by kernel_rfl
@[go_sem] theorem ze109 : zeOf Go.Proofs.Tryz.prog 109 = .int .i64 0 := by kernel_rfl
@[go_sem] theorem ty117 : tyOf Go.Proofs.Tryz.prog 117 = .int .u64 := by kernel_rfl
@[go_sem] theorem sz117 : szOf Go.Proofs.Tryz.prog 117 = 1 := by kernel_rfl
@[go_sem] theorem by117 : byOf Go.Proofs.Tryz.prog 117 = 8 := by kernel_rfl
@[go_sem] theorem kn117 : known Go.Proofs.Tryz.prog 117 = true := by kernel_rfl
@[go_sem] theorem zk117 : zeroOk Go.Proofs.Tryz.prog 117 = true := by kernel_rfl
@[go_sem] theorem ze117 : zeOf Go.Proofs.Tryz.prog 117 = .int .u64 0 := by kernel_rfl
@[go_sem] theorem ty126 : tyOf Go.Proofs.Tryz.prog 126 = .ptr 5 := by kernel_rfl
@[go_sem] theorem sz126 : szOf Go.Proofs.Tryz.prog 126 = 1 := by kernel_rfl
@[go_sem] theorem by126 : byOf Go.Proofs.Tryz.prog 126 = 8 := by kernel_rfl
@[go_sem] theorem kn126 : known Go.Proofs.Tryz.prog 126 = true := by kernel_rfl
@[go_sem] theorem zk126 : zeroOk Go.Proofs.Tryz.prog 126 = true := by kernel_rfl
@[go_sem] theorem ze126 : zeOf Go.Proofs.Tryz.prog 126 = .undef := by kernel_rfl
@[go_sem] theorem ty127 : tyOf Go.Proofs.Tryz.prog 127 = .int .u64 := by kernel_rfl
@[go_sem] theorem sz127 : szOf Go.Proofs.Tryz.prog 127 = 1 := by kernel_rfl
@[go_sem] theorem by127 : byOf Go.Proofs.Tryz.prog 127 = 8 := by kernel_rfl
@[go_sem] theorem kn127 : known Go.Proofs.Tryz.prog 127 = true := by kernel_rfl
@[go_sem] theorem zk127 : zeroOk Go.Proofs.Tryz.prog 127 = true := by kernel_rfl
@[go_sem] theorem ze127 : zeOf Go.Proofs.Tryz.prog 127 = .int .u64 0 := by kernel_rfl
@[go_sem] theorem ty131 : tyOf Go.Proofs.Tryz.prog 131 = .ptr 3 := by kernel_rfl
@[go_sem] theorem sz131 : szOf Go.Proofs.Tryz.prog 131 = 1 := by kernel_rfl
@[go_sem] theorem by131 : byOf Go.Proofs.Tryz.prog 131 = 8 := by kernel_rfl
@[go_sem] theorem kn131 : known Go.Proofs.Tryz.prog 131 = true := by kernel_rfl
@[go_sem] theorem zk131 : zeroOk Go.Proofs.Tryz.prog 131 = true := by kernel_rfl
@[go_sem] theorem ze131 : zeOf Go.Proofs.Tryz.prog 131 = .undef := by kernel_rfl
@[go_sem] theorem ty136 : tyOf Go.Proofs.Tryz.prog 136 = .ptr 127 := by kernel_rfl
@[go_sem] theorem sz136 : szOf Go.Proofs.Tryz.prog 136 = 1 := by kernel_rfl
@[go_sem] theorem by136 : byOf Go.Proofs.Tryz.prog 136 = 8 := by kernel_rfl
@[go_sem] theorem kn136 : known Go.Proofs.Tryz.prog 136 = true := by kernel_rfl
@[go_sem] theorem zk136 : zeroOk Go.Proofs.Tryz.prog 136 = true := by kernel_rfl
@[go_sem] theorem ze136 : zeOf Go.Proofs.Tryz.prog 136 = .undef := by kernel_rfl
@[go_sem] theorem ty138 : tyOf Go.Proofs.Tryz.prog 138 = .arr 256 5 := by kernel_rfl
@[go_sem] theorem sz138 : szOf Go.Proofs.Tryz.prog 138 = 256 := by kernel_rfl
@[go_sem] theorem by138 : byOf Go.Proofs.Tryz.prog 138 = 256 := by kernel_rfl
@[go_sem] theorem kn138 : known Go.Proofs.Tryz.prog 138 = true := by kernel_rfl
@[go_sem] theorem zk138 : zeroOk Go.Proofs.Tryz.prog 138 = true := by kernel_rfl
@[go_sem] theorem ty140 : tyOf Go.Proofs.Tryz.prog 140 = .strct [(0, 5), (1, 5)] := by kernel_rfl
@[go_sem] theorem sz140 : szOf Go.Proofs.Tryz.prog 140 = 2 := by kernel_rfl
@[go_sem] theorem by140 : byOf Go.Proofs.Tryz.prog 140 = 2 := by kernel_rfl
@[go_sem] theorem kn140 : known Go.Proofs.Tryz.prog 140 = true := by kernel_rfl
@[go_sem] theorem zk140 : zeroOk Go.Proofs.Tryz.prog 140 = true := by kernel_rfl
@[go_sem] theorem ze140 : zeOf Go.Proofs.Tryz.prog 140 = .agg [.int .u8 0, .int .u8 0] := by kernel_rfl
@[go_sem] theorem fl140_0 : fldOf Go.Proofs.Tryz.prog 140 0 = some (0, 1, false) := by kernel_rfl
@[go_sem] theorem fl140_1 : fldOf Go.Proofs.Tryz.prog 140 1 = some (1, 1, false) := by kernel_rfl
@[go_sem] theorem ft140 : flatTy Go.Proofs.Tryz.prog 140 = true := by kernel_rfl
@[go_sem] theorem ty141 : tyOf Go.Proofs.Tryz.prog 141 = .arr 16 140 := by kernel_rfl
@[go_sem] theorem sz141 : szOf Go.Proofs.Tryz.prog 141 = 32 := by kernel_rfl
@[go_sem] theorem by141 : byOf Go.Proofs.Tryz.prog 141 = 32 := by kernel_rfl
@[go_sem] theorem kn141 : known Go.Proofs.Tryz.prog 141 = true := by kernel_rfl
@[go_sem] theorem zk141 : zeroOk Go.Proofs.Tryz.prog 141 = true := by kernel_rfl
@[go_sem] theorem an3 : ann 3 = { vs := [4, 5, 6, 7, 8, 9, 10, 11, 12, 13, 14, 15, 16, 17, 18, 19, 20, 21, 22, 23, 24, 25], keep := [(0, [(5, .v), (6, .v), (7, .v), (9, .v), (17, .v), (19, .v)]), (2, [(5, .v), (6, .v), (7, .v), (9, .v), (17, .v), (19, .v), (20, .v), (21, .v)])] } := by kernel_rfl
@[go_sem] theorem an4 : ann 4 = { vs := [4, 5, 6, 7, 8, 9, 10, 11, 12, 13, 14, 15, 16], keep := [(0, [(5, .v), (6, .v), (7, .v), (8, .v), (12, .v), (13, .v)]), (2, [(5, .v), (6, .v), (7, .v), (8, .v), (12, .v), (14, .v)])] } := by kernel_rfl
@[go_sem] theorem an5 : ann 5 = { vs := [4, 5, 6, 7, 8, 9, 10, 11, 12, 13, 14, 15, 16, 17, 18, 19, 20, 21, 22, 23, 25, 26, 27, 28, 29] } := by kernel_rfl
@[go_sem] theorem an6 : ann 6 = { vs := [2] } := by kernel_rfl
@[go_sem] theorem an7 : ann 7 = { vs := [2] } := by kernel_rfl
@[go_sem] theorem an8 : ann 8 = { vs := [6] } := by kernel_rfl
@[go_sem] theorem an9 : ann 9 = { vs := [2] } := by kernel_rfl
@[go_sem] theorem an10 : ann 10 = { vs := [8, 9, 10, 11, 12] } := by kernel_rfl
@[go_sem] theorem an11 : ann 11 = { vs := [8, 9, 10, 11, 12] } := by kernel_rfl
@[go_sem] theorem an12 : ann 12 = { vs := [4, 5], keep := [(0, [(0, .v), (1, .v), (5, .v)])] } := by kernel_rfl
@[go_sem] theorem an13 : ann 13 = { vs := [1, 2, 3, 4, 5, 6, 7], keep := [(0, [(1, .v), (5, .v), (6, .v), (7, .v)])] } := by kernel_rfl
@[go_sem] theorem an14 : ann 14 = { vs := [8, 9, 10, 11, 12, 13] } := by kernel_rfl
@[go_sem] theorem an15 : ann 15 = { vs := [6, 7, 8, 9, 10] } := by kernel_rfl
@[go_sem] theorem an16 : ann 16 = { vs := [6, 7, 8, 9, 10] } := by kernel_rfl
@[go_sem] theorem an17 : ann 17 = { vs := [6, 7, 8, 9, 10] } := by kernel_rfl
@[go_sem] theorem an18 : ann 18 = { vs := [4, 5, 6, 7, 8] } := by kernel_rfl
@[go_sem] theorem an19 : ann 19 = { vs := [4, 5, 6, 7, 8] } := by kernel_rfl
@[go_sem] theorem an20 : ann 20 = { vs := [4, 5, 6, 7, 8] } := by kernel_rfl
@[go_sem] theorem an21 : ann 21 = { vs := [4, 5, 6, 7, 8] } := by kernel_rfl
@[go_sem] theorem an22 : ann 22 = { vs := [4, 5, 6, 7, 8, 9, 10, 12, 13, 46, 47, 48], keep := [(0, [(1, .v), (10, .o 1 true), (46, .v), (47, .v), (48, .v)])] } := by kernel_rfl
@[go_sem] theorem an23 : ann 23 = { vs := [2, 3] } := by kernel_rfl
@[go_sem] theorem an24 : ann 24 = { vs := [4, 5] } := by kernel_rfl
@[go_sem] theorem an25 : ann 25 = { vs := [4, 5], keep := [(0, [(0, .v), (1, .v), (5, .v)])] } := by kernel_rfl
@[go_sem] theorem an26 : ann 26 = { vs := [2] } := by kernel_rfl
@[go_sem] theorem an27 : ann 27 = { vs := [2] } := by kernel_rfl
@[go_sem] theorem an28 : ann 28 = { vs := [2, 3, 4, 5, 19], keep := [(0, [(0, .v), (3, .v), (4, .v)]), (3000000, [(3, .v)])], modes := [.l] } := by kernel_rfl
@[go_sem] theorem an29 : ann 29 = { vs := [2, 3, 12], modes := [.l] } := by kernel_rfl
@[go_sem] theorem an30 : ann 30 = { vs := [2], modes := [.l] } := by kernel_rfl
@[go_sem] theorem an31 : ann 31 = { vs := [2] } := by kernel_rfl
@[go_sem] theorem an32 : ann 32 = { vs := [4] } := by kernel_rfl
@[go_sem] theorem an33 : ann 33 = { vs := [8, 9, 10, 11, 12, 13, 14] } := by kernel_rfl
@[go_sem] theorem an34 : ann 34 = { vs := [6, 7], modes := [.b, .m] } := by kernel_rfl
@[go_sem] theorem an35 : ann 35 = { vs := [4] } := by kernel_rfl
@[go_sem] theorem an36 : ann 36 = { vs := [8, 9, 10, 11, 12, 13, 14], keep := [(0, [(0, .v), (2, .v), (3, .v), (11, .v), (13, .o 1 true)]), (2, [(0, .v), (2, .v), (3, .v), (11, .v), (13, .v), (14, .v)])] } := by kernel_rfl
@[go_sem] theorem an37 : ann 37 = { vs := [3, 4] } := by kernel_rfl
@[go_sem] theorem an38 : ann 38 = { vs := [2, 3] } := by kernel_rfl
@[go_sem] theorem an39 : ann 39 = { vs := [4, 5, 6, 7] } := by kernel_rfl
@[go_sem] theorem an40 : ann 40 = { vs := [4, 5, 6, 7] } := by kernel_rfl
@[go_sem] theorem an41 : ann 41 = { vs := [6, 7, 8, 9, 10] } := by kernel_rfl
@[go_sem] theorem an42 : ann 42 = { vs := [6, 7, 8, 9, 10, 11, 12, 13, 15, 62, 63, 64], keep := [(1, [(1, .v), (2, .v), (13, .o 3 true), (62, .v), (63, .v), (64, .v)])] } := by kernel_rfl
@[go_sem] theorem an43 : ann 43 = { vs := [2, 3, 4], keep := [(0, [(3, .v), (4, .v)])] } := by kernel_rfl
@[go_sem] theorem an44 : ann 44 = { vs := [6, 7, 8, 9, 10, 11, 12, 13, 14, 15], keep := [(1, [(0, .v), (1, .v), (2, .v), (11, .o 3 true), (12, .o 3 true), (13, .v)]), (4, [(11, .o 3 true), (12, .v), (15, .v)])] } := by kernel_rfl
@[go_sem] theorem an45 : ann 45 = { vs := [4, 5, 6, 7, 8] } := by kernel_rfl
@[go_sem] theorem an46 : ann 46 = { vs := [4, 5, 6] } := by kernel_rfl
@[go_sem] theorem an47 : ann 47 = { vs := [3, 4, 5, 6, 7] } := by kernel_rfl
@[go_sem] theorem an48 : ann 48 = { vs := [4, 5, 6, 7], keep := [(0, [(0, .v), (1, .v), (6, .v), (7, .v)]), (1000009, [])] } := by kernel_rfl
@[go_sem] theorem an49 : ann 49 = { vs := [4, 5] } := by kernel_rfl
@[go_sem] theorem an50 : ann 50 = { vs := [2] } := by kernel_rfl
@[go_sem] theorem an51 : ann 51 = { vs := [4, 5] } := by kernel_rfl
@[go_sem] theorem an52 : ann 52 = { vs := [2] } := by kernel_rfl
@[go_sem] theorem an53 : ann 53 = { vs := [4, 5, 12, 13], keep := [(0, [(0, .v), (1, .v), (12, .v), (13, .v)])] } := by kernel_rfl
@[go_sem] theorem an54 : ann 54 = { vs := [3, 4] } := by kernel_rfl
@[go_sem] theorem an55 : ann 55 = { vs := [4] } := by kernel_rfl
@[go_sem] theorem an56 : ann 56 = { vs := [2, 3, 4, 5, 7, 8], keep := [(0, [(0, .v), (7, .v), (8, .v)])] } := by kernel_rfl
@[go_sem] theorem an57 : ann 57 = { vs := [4, 5, 6, 7], modes := [.l] } := by kernel_rfl
@[go_sem] theorem an58 : ann 58 = { vs := [4] } := by kernel_rfl
@[go_sem] theorem an59 : ann 59 = { vs := [2], modes := [.l] } := by kernel_rfl
@[go_sem] theorem an60 : ann 60 = { vs := [4], modes := [.l] } := by kernel_rfl
@[go_sem] theorem an61 : ann 61 = { vs := [6, 7, 8, 9, 10, 11] } := by kernel_rfl
@[go_sem] theorem an62 : ann 62 = { vs := [4] } := by kernel_rfl
@[go_sem] theorem an63 : ann 63 = { vs := [2] } := by kernel_rfl
@[go_sem] theorem an64 : ann 64 = { vs := [6] } := by kernel_rfl
@[go_sem] theorem an65 : ann 65 = { vs := [2] } := by kernel_rfl
@[go_sem] theorem an66 : ann 66 = { vs := [4, 5] } := by kernel_rfl
@[go_sem] theorem an67 : ann 67 = { vs := [6, 7, 8, 9], modes := [.m, .b, .m] } := by kernel_rfl
@[go_sem] theorem an68 : ann 68 = { vs := [4] } := by kernel_rfl
@[go_sem] theorem an69 : ann 69 = { vs := [2, 3, 4], keep := [(0, [(0, .v), (3, .v)])] } := by kernel_rfl
@[go_sem] theorem an70 : ann 70 = { vs := [4, 5], keep := [(0, [(0, .v), (1, .v), (5, .v)])] } := by kernel_rfl
@[go_sem] theorem an71 : ann 71 = { vs := [4, 5] } := by kernel_rfl
@[go_sem] theorem an72 : ann 72 = { vs := [3, 4, 5, 6, 7], keep := [(0, [(0, .v), (3, .v), (5, .o 3 true), (6, .v), (7, .v)])] } := by kernel_rfl
@[go_sem] theorem an73 : ann 73 = { vs := [4] } := by kernel_rfl
@[go_sem] theorem an74 : ann 74 = { vs := [2, 3] } := by kernel_rfl
@[go_sem] theorem an75 : ann 75 = { vs := [4] } := by kernel_rfl
@[go_sem] theorem an76 : ann 76 = { vs := [4], modes := [.l] } := by kernel_rfl
@[go_sem] theorem an77 : ann 77 = { vs := [2, 3, 4] } := by kernel_rfl
@[go_sem] theorem an78 : ann 78 = { vs := [4] } := by kernel_rfl
@[go_sem] theorem an79 : ann 79 = { vs := [4, 5, 6, 7], keep := [(0, [(0, .v), (1, .v), (5, .o 1 true), (6, .v), (7, .v)])] } := by kernel_rfl
@[go_sem] theorem an80 : ann 80 = { vs := [2] } := by kernel_rfl
@[go_sem] theorem an81 : ann 81 = { vs := [4] } := by kernel_rfl
@[go_sem] theorem an82 : ann 82 = { vs := [4, 5] } := by kernel_rfl
@[go_sem] theorem an83 : ann 83 = { vs := [2, 3], keep := [(0, [(0, .v), (3, .v)])] } := by kernel_rfl
@[go_sem] theorem an84 : ann 84 = { vs := [2, 3] } := by kernel_rfl
@[go_sem] theorem an85 : ann 85 = { vs := [6, 7], modes := [.m] } := by kernel_rfl
@[go_sem] theorem an86 : ann 86 = { vs := [6, 7, 8, 9, 10, 11], keep := [(0, [(0, .v), (1, .v), (2, .v), (8, .v), (9, .v), (10, .v)])] } := by kernel_rfl
@[go_sem] theorem an87 : ann 87 = { vs := [2, 4] } := by kernel_rfl
@[go_sem] theorem an88 : ann 88 = { vs := [4, 5], keep := [(0, [(0, .v), (1, .v), (5, .v)])] } := by kernel_rfl
@[go_sem] theorem an89 : ann 89 = { vs := [4, 5, 6, 7, 8, 9, 10, 11], keep := [(0, [(0, .v), (1, .v), (5, .v), (6, .v), (7, .v), (8, .v), (9, .v), (10, .v)]), (2, [(0, .v), (1, .v), (5, .v), (6, .v), (7, .v), (9, .v), (11, .v)])] } := by kernel_rfl
@[go_sem] theorem an90 : ann 90 = { vs := [3] } := by kernel_rfl
@[go_sem] theorem an91 : ann 91 = { vs := [8, 9, 10, 11], keep := [(0, [(0, .v), (1, .v), (2, .v), (3, .v), (9, .v), (10, .v)])] } := by kernel_rfl
@[go_sem] theorem an92 : ann 92 = { vs := [2], modes := [.l] } := by kernel_rfl
@[go_sem] theorem an93 : ann 93 = { vs := [4, 5, 6] } := by kernel_rfl
@[go_sem] theorem an94 : ann 94 = { vs := [6] } := by kernel_rfl
@[go_sem] theorem an95 : ann 95 = { vs := [4, 5, 7, 8], keep := [(0, [(0, .v), (1, .v), (7, .v), (8, .v)])] } := by kernel_rfl
@[go_sem] theorem an98 : ann 98 = { vs := [4, 5, 6, 7, 8, 9, 10, 11, 42], keep := [(3, [(7, .v), (8, .v), (9, .v)])] } := by kernel_rfl
@[go_sem] theorem an99 : ann 99 = { vs := [4, 5, 7, 8], keep := [(0, [(0, .v), (1, .v), (7, .v), (8, .v)])] } := by kernel_rfl
@[go_sem] theorem an100 : ann 100 = { vs := [4] } := by kernel_rfl
@[go_sem] theorem an101 : ann 101 = { vs := [10, 11, 12, 13, 14, 15, 16, 17, 18, 19, 20], keep := [(0, [(0, .v), (1, .v), (2, .v), (3, .v), (4, .v), (10, .v), (11, .v)])], modes := [.l] } := by kernel_rfl
@[go_sem] theorem an102 : ann 102 = { vs := [2] } := by kernel_rfl
@[go_sem] theorem an103 : ann 103 = { vs := [4] } := by kernel_rfl
@[go_sem] theorem an104 : ann 104 = { vs := [2, 3], keep := [(0, [(0, .v), (3, .v)])] } := by kernel_rfl
@[go_sem] theorem an105 : ann 105 = { vs := [2, 3, 4, 5, 6, 7, 8], keep := [(0, [(0, .v), (4, .v), (5, .v)]), (2, [(4, .v), (6, .v), (7, .v), (8, .v)])] } := by kernel_rfl
@[go_sem] theorem an106 : ann 106 = { vs := [4, 5, 6, 7, 9], keep := [(0, [(0, .v), (1, .v), (6, .v), (7, .v)])] } := by kernel_rfl
@[go_sem] theorem an107 : ann 107 = { vs := [4, 5, 6], keep := [(0, [(0, .v), (1, .v), (5, .v)])] } := by kernel_rfl
@[go_sem] theorem an108 : ann 108 = { vs := [4] } := by kernel_rfl
@[go_sem] theorem an110 : ann 110 = { vs := [4, 5, 6, 7, 8, 9] } := by kernel_rfl
@[go_sem] theorem an112 : ann 112 = { vs := [4, 5] } := by kernel_rfl
@[go_sem] theorem an113 : ann 113 = { vs := [2] } := by kernel_rfl
@[go_sem] theorem an114 : ann 114 = { vs := [2] } := by kernel_rfl
@[go_sem] theorem an115 : ann 115 = { vs := [4] } := by kernel_rfl
@[go_sem] theorem an116 : ann 116 = { vs := [8, 9], keep := [(0, [(0, .v), (1, .v), (2, .v), (3, .v), (8, .v)]), (2, [(0, .v), (1, .v), (2, .v), (3, .v), (8, .v), (9, .v)])], modes := [.l] } := by kernel_rfl
@[go_sem] theorem an117 : ann 117 = { vs := [8, 9, 10, 11, 12], keep := [(0, [(0, .v), (3, .v), (8, .v), (9, .v), (10, .v), (11, .v)]), (2, [(0, .v), (3, .v), (8, .v), (9, .v), (12, .v)])], modes := [.l] } := by kernel_rfl
@[go_sem] theorem an118 : ann 118 = { vs := [8, 9, 10, 11, 12], keep := [(0, [(0, .v), (1, .v), (8, .v), (9, .v), (10, .v), (11, .v)])], modes := [.l] } := by kernel_rfl
@[go_sem] theorem an119 : ann 119 = { vs := [8, 9, 10, 11, 12, 13, 14, 55] } := by kernel_rfl
@[go_sem] theorem an120 : ann 120 = { vs := [8, 9], keep := [(0, [(0, .v), (8, .v), (9, .v)])], modes := [.l] } := by kernel_rfl
@[go_sem] theorem an121 : ann 121 = { vs := [8, 9, 10, 11, 12], keep := [(0, [(0, .v), (1, .v), (2, .v), (3, .v), (9, .v), (10, .v)]), (2, [(0, .v), (1, .v), (2, .v), (3, .v), (9, .v), (10, .v)]), (4, [(0, .v), (1, .v), (2, .v), (3, .v), (9, .v), (10, .v), (11, .v)]), (6, [(0, .v), (1, .v), (2, .v), (3, .v), (9, .v), (10, .v), (12, .v)])], modes := [.l] } := by kernel_rfl
@[go_sem] theorem an122 : ann 122 = { vs := [10, 11, 12], keep := [(0, [(0, .v), (1, .v), (4, .v), (11, .v), (12, .v)]), (2, [(0, .v), (1, .v), (4, .v), (11, .v), (12, .v)]), (4, [(0, .v), (1, .v), (4, .v), (11, .v), (12, .v)])], modes := [.l] } := by kernel_rfl
@[go_sem] theorem an123 : ann 123 = { vs := [10, 11, 12, 13], keep := [(0, [(0, .v), (1, .v), (4, .v), (12, .v), (13, .v)]), (2, [(0, .v), (1, .v), (4, .v), (12, .v), (13, .v)]), (4, [(0, .v), (1, .v), (4, .v), (12, .v), (13, .v)]), (6, [(0, .v), (1, .v), (4, .v), (12, .v), (13, .v)]), (8, [(0, .v), (1, .v), (4, .v), (12, .v), (13, .v)])], modes := [.l] } := by kernel_rfl
@[go_sem] theorem an124 : ann 124 = { vs := [2] } := by kernel_rfl
@[go_sem] theorem an125 : ann 125 = { vs := [2] } := by kernel_rfl
@[go_sem] theorem an127 : ann 127 = { vs := [2] } := by kernel_rfl
@[go_sem] theorem an128 : ann 128 = { vs := [2] } := by kernel_rfl
@[go_sem] theorem an129 : ann 129 = { vs := [2, 4], keep := [(0, [(2, .v), (4, .v)])] } := by kernel_rfl
@[go_sem] theorem an130 : ann 130 = { vs := [2, 3] } := by kernel_rfl
@[go_sem] theorem an132 : ann 132 = { vs := [4, 5, 6, 7, 8, 9, 10, 11, 12, 13], keep := [(1, [(0, .v), (1, .v), (5, .v), (6, .v), (7, .v), (8, .v), (9, .v), (10, .v)])] } := by kernel_rfl
@[go_sem] theorem an133 : ann 133 = { vs := [2, 3], keep := [(0, [(0, .v), (2, .v), (3, .v)])] } := by kernel_rfl
@[go_sem] theorem an134 : ann 134 = { vs := [4, 5, 6] } := by kernel_rfl
@[go_sem] theorem an135 : ann 135 = { vs := [4, 5, 6, 7, 8, 9, 10, 11, 12, 13] } := by kernel_rfl
@[go_sem] theorem an137 : ann 137 = { vs := [4] } := by kernel_rfl
@[go_sem] theorem an138 : ann 138 = { vs := [10, 11], keep := [(0, [(0, .v), (2, .v), (3, .v), (4, .v), (10, .v)])], modes := [.l] } := by kernel_rfl
@[go_sem] theorem an139 : ann 139 = { vs := [2] } := by kernel_rfl
@[go_sem] theorem an140 : ann 140 = { vs := [2] } := by kernel_rfl
@[go_sem] theorem an141 : ann 141 = { vs := [8] } := by kernel_rfl
@[go_sem] theorem an142 : ann 142 = { vs := [12] } := by kernel_rfl
@[go_sem] theorem an143 : ann 143 = { vs := [2, 3, 4, 5, 6, 7, 8, 9, 10, 11, 12] } := by kernel_rfl
@[go_sem] theorem an144 : ann 144 = { vs := [4] } := by kernel_rfl
@[go_sem] theorem an146 : ann 146 = { vs := [2] } := by kernel_rfl
@[go_sem] theorem an147 : ann 147 = { vs := [4, 5, 6, 7, 8, 9, 10], keep := [(0, [(0, .v), (1, .v), (5, .v), (6, .v), (7, .v), (8, .v), (9, .v)]), (2, [(0, .v), (1, .v), (5, .v), (6, .v), (7, .v), (8, .v), (10, .v)])] } := by kernel_rfl
@[go_sem] theorem an150 : ann 150 = { vs := [10, 11] } := by kernel_rfl
@[go_sem] theorem an152 : ann 152 = { vs := [2, 3, 4, 5, 6, 7, 8], keep := [(0, [(0, .v), (4, .v), (5, .v)]), (2, [(4, .v), (6, .v), (7, .v), (8, .v)])] } := by kernel_rfl
@[go_sem] theorem an0 : ann 0 = {} := by kernel_rfl
@[go_sem] theorem an1 : ann 1 = {} := by kernel_rfl
@[go_sem] theorem an2 : ann 2 = {} := by kernel_rfl
@[go_sem] theorem an96 : ann 96 = {} := by kernel_rfl
@[go_sem] theorem an97 : ann 97 = {} := by kernel_rfl
@[go_sem] theorem an109 : ann 109 = {} := by kernel_rfl
@[go_sem] theorem an111 : ann 111 = {} := by kernel_rfl
@[go_sem] theorem an126 : ann 126 = {} := by kernel_rfl
@[go_sem] theorem an131 : ann 131 = {} := by kernel_rfl
@[go_sem] theorem an136 : ann 136 = {} := by kernel_rfl
@[go_sem] theorem an145 : ann 145 = {} := by kernel_rfl
@[go_sem] theorem an148 : ann 148 = {} := by kernel_rfl
@[go_sem] theorem an149 : ann 149 = {} := by kernel_rfl
@[go_sem] theorem an151 : ann 151 = {} := by kernel_rfl
@[go_sem] theorem an153 : ann 153 = {} := by kernel_rfl
@[go_sem] theorem an154 : ann 154 = {} := by kernel_rfl
@[go_sem] theorem an155 : ann 155 = {} := by kernel_rfl
@[go_sem] theorem an156 : ann 156 = {} := by kernel_rfl
@[go_sem] theorem an157 : ann 157 = {} := by kernel_rfl
@[go_sem] theorem an158 : ann 158 = {} := by kernel_rfl
@[go_sem] theorem an159 : ann 159 = {} := by kernel_rfl
@[go_sem] theorem an160 : ann 160 = {} := by kernel_rfl
@[go_sem] theorem an161 : ann 161 = {} := by kernel_rfl
@[go_sem] theorem an162 : ann 162 = {} := by kernel_rfl
@[go_sem] theorem an163 : ann 163 = {} := by kernel_rfl
@[go_sem] theorem an164 : ann 164 = {} := by kernel_rfl
@[go_sem] theorem an165 : ann 165 = {} := by kernel_rfl
@[go_sem] theorem an166 : ann 166 = {} := by kernel_rfl
@[go_sem] theorem an167 : ann 167 = {} := by kernel_rfl
@[go_sem] theorem an168 : ann 168 = {} := by kernel_rfl
@[go_sem] theorem an169 : ann 169 = {} := by kernel_rfl
@[go_sem] theorem an170 : ann 170 = {} := by kernel_rfl
@[go_sem] theorem an171 : ann 171 = {} := by kernel_rfl
@[go_sem] theorem an172 : ann 172 = {} := by kernel_rfl
@[go_sem] theorem an173 : ann 173 = {} := by kernel_rfl
@[go_sem] theorem an174 : ann 174 = {} := by kernel_rfl
@[go_sem] theorem an175 : ann 175 = {} := by kernel_rfl
@[go_sem] theorem re2 : Go.Proofs.Tryz.f2.results.toList = [] := rfl
@[go_sem] theorem re3 : Go.Proofs.Tryz.f3.results.toList = [.tmp 4] := rfl
@[go_sem] theorem re4 : Go.Proofs.Tryz.f4.results.toList = [.tmp 4] := rfl
@[go_sem] theorem re5 : Go.Proofs.Tryz.f5.results.toList = [.tmp 4] := rfl
@[go_sem] theorem re6 : Go.Proofs.Tryz.f6.results.toList = [.tmp 2] := rfl
@[go_sem] theorem re7 : Go.Proofs.Tryz.f7.results.toList = [.cell 2 26] := rfl
@[go_sem] theorem re8 : Go.Proofs.Tryz.f8.results.toList = [.tmp 6] := rfl
@[go_sem] theorem re9 : Go.Proofs.Tryz.f9.results.toList = [.tmp 2] := rfl
@[go_sem] theorem re10 : Go.Proofs.Tryz.f10.results.toList = [.tmp 8, .tmp 9] := rfl
@[go_sem] theorem re11 : Go.Proofs.Tryz.f11.results.toList = [.tmp 8, .tmp 9] := rfl
@[go_sem] theorem re12 : Go.Proofs.Tryz.f12.results.toList = [.tmp 4] := rfl
@[go_sem] theorem re13 : Go.Proofs.Tryz.f13.results.toList = [.tmp 2] := rfl
@[go_sem] theorem re14 : Go.Proofs.Tryz.f14.results.toList = [.tmp 8, .tmp 9] := rfl
@[go_sem] theorem re15 : Go.Proofs.Tryz.f15.results.toList = [.tmp 6, .tmp 7] := rfl
@[go_sem] theorem re16 : Go.Proofs.Tryz.f16.results.toList = [.tmp 6, .tmp 7] := rfl
@[go_sem] theorem re17 : Go.Proofs.Tryz.f17.results.toList = [.tmp 6, .tmp 7] := rfl
@[go_sem] theorem re18 : Go.Proofs.Tryz.f18.results.toList = [.tmp 4, .tmp 5] := rfl
@[go_sem] theorem re19 : Go.Proofs.Tryz.f19.results.toList = [.tmp 4, .tmp 5] := rfl
@[go_sem] theorem re20 : Go.Proofs.Tryz.f20.results.toList = [.tmp 4, .tmp 5] := rfl
@[go_sem] theorem re21 : Go.Proofs.Tryz.f21.results.toList = [.tmp 4, .tmp 5] := rfl
@[go_sem] theorem re22 : Go.Proofs.Tryz.f22.results.toList = [.tmp 4, .tmp 5] := rfl
@[go_sem] theorem re23 : Go.Proofs.Tryz.f23.results.toList = [.tmp 2, .tmp 3] := rfl
@[go_sem] theorem re24 : Go.Proofs.Tryz.f24.results.toList = [.tmp 4, .tmp 5] := rfl
@[go_sem] theorem re25 : Go.Proofs.Tryz.f25.results.toList = [.tmp 4] := rfl
@[go_sem] theorem re26 : Go.Proofs.Tryz.f26.results.toList = [.tmp 2] := rfl
@[go_sem] theorem re27 : Go.Proofs.Tryz.f27.results.toList = [.tmp 2] := rfl
@[go_sem] theorem re28 : Go.Proofs.Tryz.f28.results.toList = [.tmp 2] := rfl
@[go_sem] theorem re29 : Go.Proofs.Tryz.f29.results.toList = [.cell 2 26] := rfl
@[go_sem] theorem re30 : Go.Proofs.Tryz.f30.results.toList = [.tmp 2] := rfl
@[go_sem] theorem re31 : Go.Proofs.Tryz.f31.results.toList = [.tmp 2] := rfl
@[go_sem] theorem re32 : Go.Proofs.Tryz.f32.results.toList = [.tmp 4] := rfl
@[go_sem] theorem re33 : Go.Proofs.Tryz.f33.results.toList = [.tmp 8, .tmp 9] := rfl
@[go_sem] theorem re34 : Go.Proofs.Tryz.f34.results.toList = [.tmp 6, .tmp 7] := rfl
@[go_sem] theorem re35 : Go.Proofs.Tryz.f35.results.toList = [.tmp 4] := rfl
@[go_sem] theorem re36 : Go.Proofs.Tryz.f36.results.toList = [.tmp 8, .tmp 9] := rfl
@[go_sem] theorem re37 : Go.Proofs.Tryz.f37.results.toList = [.tmp 4] := rfl
@[go_sem] theorem re38 : Go.Proofs.Tryz.f38.results.toList = [.tmp 3] := rfl
@[go_sem] theorem re39 : Go.Proofs.Tryz.f39.results.toList = [.tmp 4] := rfl
@[go_sem] theorem re40 : Go.Proofs.Tryz.f40.results.toList = [.tmp 4, .tmp 5] := rfl
@[go_sem] theorem re41 : Go.Proofs.Tryz.f41.results.toList = [.tmp 6, .tmp 7] := rfl
@[go_sem] theorem re42 : Go.Proofs.Tryz.f42.results.toList = [.tmp 6, .tmp 7] := rfl
@[go_sem] theorem re43 : Go.Proofs.Tryz.f43.results.toList = [.tmp 2] := rfl
@[go_sem] theorem re44 : Go.Proofs.Tryz.f44.results.toList = [.tmp 6, .tmp 7] := rfl
@[go_sem] theorem re45 : Go.Proofs.Tryz.f45.results.toList = [.tmp 4, .tmp 5] := rfl
@[go_sem] theorem re46 : Go.Proofs.Tryz.f46.results.toList = [.tmp 4, .tmp 5] := rfl
@[go_sem] theorem re47 : Go.Proofs.Tryz.f47.results.toList = [.tmp 4, .tmp 5] := rfl
@[go_sem] theorem re48 : Go.Proofs.Tryz.f48.results.toList = [.tmp 4, .tmp 5] := rfl
@[go_sem] theorem re49 : Go.Proofs.Tryz.f49.results.toList = [.tmp 4, .tmp 5] := rfl
@[go_sem] theorem re50 : Go.Proofs.Tryz.f50.results.toList = [.tmp 2] := rfl
@[go_sem] theorem re51 : Go.Proofs.Tryz.f51.results.toList = [.tmp 4] := rfl
@[go_sem] theorem re52 : Go.Proofs.Tryz.f52.results.toList = [.tmp 2] := rfl
@[go_sem] theorem re53 : Go.Proofs.Tryz.f53.results.toList = [.tmp 4] := rfl
@[go_sem] theorem re54 : Go.Proofs.Tryz.f54.results.toList = [.tmp 4] := rfl
@[go_sem] theorem re55 : Go.Proofs.Tryz.f55.results.toList = [.tmp 4] := rfl
@[go_sem] theorem re56 : Go.Proofs.Tryz.f56.results.toList = [.tmp 2] := rfl
@[go_sem] theorem re57 : Go.Proofs.Tryz.f57.results.toList = [.tmp 4] := rfl
@[go_sem] theorem re58 : Go.Proofs.Tryz.f58.results.toList = [.tmp 4] := rfl
@[go_sem] theorem re59 : Go.Proofs.Tryz.f59.results.toList = [.tmp 2] := rfl
@[go_sem] theorem re60 : Go.Proofs.Tryz.f60.results.toList = [.tmp 4] := rfl
@[go_sem] theorem re61 : Go.Proofs.Tryz.f61.results.toList = [.tmp 6, .tmp 7] := rfl
@[go_sem] theorem re62 : Go.Proofs.Tryz.f62.results.toList = [.tmp 4] := rfl
@[go_sem] theorem re63 : Go.Proofs.Tryz.f63.results.toList = [.tmp 2] := rfl
@[go_sem] theorem re64 : Go.Proofs.Tryz.f64.results.toList = [.tmp 6] := rfl
@[go_sem] theorem re65 : Go.Proofs.Tryz.f65.results.toList = [.tmp 2] := rfl
@[go_sem] theorem re66 : Go.Proofs.Tryz.f66.results.toList = [.tmp 4] := rfl
@[go_sem] theorem re67 : Go.Proofs.Tryz.f67.results.toList = [.tmp 6] := rfl
@[go_sem] theorem re68 : Go.Proofs.Tryz.f68.results.toList = [.tmp 4] := rfl
@[go_sem] theorem re69 : Go.Proofs.Tryz.f69.results.toList = [.tmp 2] := rfl
@[go_sem] theorem re70 : Go.Proofs.Tryz.f70.results.toList = [.tmp 4] := rfl
@[go_sem] theorem re71 : Go.Proofs.Tryz.f71.results.toList = [.tmp 4] := rfl
@[go_sem] theorem re72 : Go.Proofs.Tryz.f72.results.toList = [.tmp 4] := rfl
@[go_sem] theorem re73 : Go.Proofs.Tryz.f73.results.toList = [.tmp 4] := rfl
@[go_sem] theorem re74 : Go.Proofs.Tryz.f74.results.toList = [.tmp 3] := rfl
@[go_sem] theorem re75 : Go.Proofs.Tryz.f75.results.toList = [.tmp 4] := rfl
@[go_sem] theorem re76 : Go.Proofs.Tryz.f76.results.toList = [] := rfl
@[go_sem] theorem re77 : Go.Proofs.Tryz.f77.results.toList = [.tmp 4] := rfl
@[go_sem] theorem re78 : Go.Proofs.Tryz.f78.results.toList = [.tmp 4] := rfl
@[go_sem] theorem re79 : Go.Proofs.Tryz.f79.results.toList = [.tmp 4] := rfl
@[go_sem] theorem re80 : Go.Proofs.Tryz.f80.results.toList = [.tmp 2] := rfl
@[go_sem] theorem re81 : Go.Proofs.Tryz.f81.results.toList = [.tmp 4] := rfl
@[go_sem] theorem re82 : Go.Proofs.Tryz.f82.results.toList = [.tmp 4] := rfl
@[go_sem] theorem re83 : Go.Proofs.Tryz.f83.results.toList = [.tmp 2] := rfl
@[go_sem] theorem re84 : Go.Proofs.Tryz.f84.results.toList = [.tmp 3] := rfl
@[go_sem] theorem re85 : Go.Proofs.Tryz.f85.results.toList = [.tmp 6] := rfl
@[go_sem] theorem re86 : Go.Proofs.Tryz.f86.results.toList = [.tmp 6, .tmp 7] := rfl
@[go_sem] theorem re87 : Go.Proofs.Tryz.f87.results.toList = [.tmp 4] := rfl
@[go_sem] theorem re88 : Go.Proofs.Tryz.f88.results.toList = [.tmp 4] := rfl
@[go_sem] theorem re89 : Go.Proofs.Tryz.f89.results.toList = [.tmp 4] := rfl
@[go_sem] theorem re90 : Go.Proofs.Tryz.f90.results.toList = [.tmp 3] := rfl
@[go_sem] theorem re91 : Go.Proofs.Tryz.f91.results.toList = [.tmp 8] := rfl
@[go_sem] theorem re92 : Go.Proofs.Tryz.f92.results.toList = [.tmp 2] := rfl
@[go_sem] theorem re93 : Go.Proofs.Tryz.f93.results.toList = [.tmp 4, .tmp 5] := rfl
@[go_sem] theorem re94 : Go.Proofs.Tryz.f94.results.toList = [.tmp 6] := rfl
@[go_sem] theorem re95 : Go.Proofs.Tryz.f95.results.toList = [.tmp 4] := rfl
@[go_sem] theorem re97 : Go.Proofs.Tryz.f97.results.toList = [] := rfl
@[go_sem] theorem re98 : Go.Proofs.Tryz.f98.results.toList = [.tmp 4] := rfl
@[go_sem] theorem re99 : Go.Proofs.Tryz.f99.results.toList = [.tmp 4] := rfl
@[go_sem] theorem re100 : Go.Proofs.Tryz.f100.results.toList = [.tmp 4] := rfl
@[go_sem] theorem re101 : Go.Proofs.Tryz.f101.results.toList = [] := rfl
@[go_sem] theorem re102 : Go.Proofs.Tryz.f102.results.toList = [.tmp 2] := rfl
@[go_sem] theorem re103 : Go.Proofs.Tryz.f103.results.toList = [.tmp 4] := rfl
@[go_sem] theorem re104 : Go.Proofs.Tryz.f104.results.toList = [.tmp 2] := rfl
@[go_sem] theorem re105 : Go.Proofs.Tryz.f105.results.toList = [.tmp 2, .tmp 3] := rfl
@[go_sem] theorem re106 : Go.Proofs.Tryz.f106.results.toList = [.tmp 4] := rfl
@[go_sem] theorem re107 : Go.Proofs.Tryz.f107.results.toList = [.tmp 4] := rfl
@[go_sem] theorem re108 : Go.Proofs.Tryz.f108.results.toList = [.tmp 4] := rfl
@[go_sem] theorem re109 : Go.Proofs.Tryz.f109.results.toList = [] := rfl
@[go_sem] theorem re110 : Go.Proofs.Tryz.f110.results.toList = [.tmp 4, .tmp 5] := rfl
@[go_sem] theorem re111 : Go.Proofs.Tryz.f111.results.toList = [] := rfl
@[go_sem] theorem re112 : Go.Proofs.Tryz.f112.results.toList = [.tmp 4, .tmp 5] := rfl
@[go_sem] theorem re113 : Go.Proofs.Tryz.f113.results.toList = [.tmp 2] := rfl
@[go_sem] theorem re114 : Go.Proofs.Tryz.f114.results.toList = [.tmp 2] := rfl
@[go_sem] theorem re115 : Go.Proofs.Tryz.f115.results.toList = [.tmp 4] := rfl
@[go_sem] theorem re116 : Go.Proofs.Tryz.f116.results.toList = [] := rfl
@[go_sem] theorem re117 : Go.Proofs.Tryz.f117.results.toList = [] := rfl
@[go_sem] theorem re118 : Go.Proofs.Tryz.f118.results.toList = [] := rfl
@[go_sem] theorem re119 : Go.Proofs.Tryz.f119.results.toList = [.tmp 8, .tmp 9] := rfl
@[go_sem] theorem re120 : Go.Proofs.Tryz.f120.results.toList = [] := rfl
@[go_sem] theorem re121 : Go.Proofs.Tryz.f121.results.toList = [.tmp 8] := rfl
@[go_sem] theorem re122 : Go.Proofs.Tryz.f122.results.toList = [.tmp 10] := rfl
@[go_sem] theorem re123 : Go.Proofs.Tryz.f123.results.toList = [.tmp 10, .tmp 11] := rfl
@[go_sem] theorem re124 : Go.Proofs.Tryz.f124.results.toList = [.tmp 2] := rfl
@[go_sem] theorem re125 : Go.Proofs.Tryz.f125.results.toList = [.tmp 2] := rfl
@[go_sem] theorem re127 : Go.Proofs.Tryz.f127.results.toList = [.tmp 2] := rfl
@[go_sem] theorem re128 : Go.Proofs.Tryz.f128.results.toList = [.tmp 2] := rfl
@[go_sem] theorem re129 : Go.Proofs.Tryz.f129.results.toList = [.tmp 2] := rfl
@[go_sem] theorem re130 : Go.Proofs.Tryz.f130.results.toList = [.tmp 2, .tmp 3] := rfl
@[go_sem] theorem re132 : Go.Proofs.Tryz.f132.results.toList = [.tmp 4] := rfl
@[go_sem] theorem re133 : Go.Proofs.Tryz.f133.results.toList = [] := rfl
@[go_sem] theorem re134 : Go.Proofs.Tryz.f134.results.toList = [.tmp 4, .tmp 5] := rfl
@[go_sem] theorem re135 : Go.Proofs.Tryz.f135.results.toList = [.tmp 4, .tmp 5] := rfl
@[go_sem] theorem re136 : Go.Proofs.Tryz.f136.results.toList = [] := rfl
@[go_sem] theorem re137 : Go.Proofs.Tryz.f137.results.toList = [] := rfl
@[go_sem] theorem re138 : Go.Proofs.Tryz.f138.results.toList = [] := rfl
@[go_sem] theorem re139 : Go.Proofs.Tryz.f139.results.toList = [.tmp 2] := rfl
@[go_sem] theorem re140 : Go.Proofs.Tryz.f140.results.toList = [.tmp 2] := rfl
@[go_sem] theorem re141 : Go.Proofs.Tryz.f141.results.toList = [.tmp 8] := rfl
@[go_sem] theorem re142 : Go.Proofs.Tryz.f142.results.toList = [.tmp 12] := rfl
@[go_sem] theorem re143 : Go.Proofs.Tryz.f143.results.toList = [.tmp 2, .tmp 3] := rfl
@[go_sem] theorem re144 : Go.Proofs.Tryz.f144.results.toList = [.tmp 4] := rfl
@[go_sem] theorem re146 : Go.Proofs.Tryz.f146.results.toList = [.tmp 2] := rfl
@[go_sem] theorem re147 : Go.Proofs.Tryz.f147.results.toList = [.tmp 4] := rfl
@[go_sem] theorem re150 : Go.Proofs.Tryz.f150.results.toList = [.tmp 10, .tmp 11] := rfl
@[go_sem] theorem re152 : Go.Proofs.Tryz.f152.results.toList = [.tmp 2, .tmp 3] := rfl
@[go_sem] theorem re175 : Go.Proofs.Tryz.f175.results.toList = [] := rfl
end Go.Proofs.YtcdojakgoogonaaGreatDoor.Ev
