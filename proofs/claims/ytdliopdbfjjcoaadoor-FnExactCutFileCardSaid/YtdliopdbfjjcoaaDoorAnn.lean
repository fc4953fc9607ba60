/- Annotations of the functions, and facts of types, by gen.py. No condition. -/
import Derived.Test.YtdliopdbfjjcoaaDoorEvStep
import Derived.Test.YtdliopdbfjjcoaaDoorEvCore
import Derived.Test.YtdliopdbfjjcoaaDoorProg
namespace Go.Proofs.YtdliopdbfjjcoaaDoor.Ev
open Go
def annL : List (Nat × Ann) := [
  (3, { vs := [2, 3, 4] }),
  (4, { vs := [2, 3, 4, 5, 6] }),
  (5, { vs := [2, 3, 4, 5, 6] }),
  (6, { vs := [4, 5, 6, 7, 8, 9, 10, 11] }),
  (7, { vs := [8, 9, 10, 11, 12, 13, 14] }),
  (8, { vs := [2, 3, 4, 5, 6, 7, 8, 9, 10, 11, 12, 13] }),
  (9, { vs := [4, 5, 6, 7, 8, 9, 10, 11, 12, 13, 14, 15] }),
  (10, { vs := [4, 5, 6, 7, 8, 9, 10, 11, 12, 13, 14, 15] }),
  (11, { vs := [4, 5, 6, 7, 8, 9, 10, 11, 12, 13, 14, 15] }),
  (12, { vs := [6, 7, 8, 9, 10, 11, 12, 13, 14, 15, 16, 17] }),
  (13, { vs := [8, 9, 10, 11, 12, 13, 14, 15, 16, 17, 18, 19] }),
  (14, { vs := [6, 7, 8, 9, 10, 11, 12, 13, 14, 15, 16, 17] }),
  (15, { vs := [2] }),
  (16, { vs := [2] }),
  (17, { vs := [2, 3] }),
  (18, { vs := [2, 3] }),
  (19, { vs := [4, 5], keep := [(0, [(0, .v), (1, .v), (5, .v)])] }),
  (20, { vs := [2, 3, 4], keep := [(0, [(0, .v), (3, .v)])] }),
  (21, { vs := [2, 3, 4], keep := [(0, [(0, .v), (3, .v), (4, .v)])] }),
  (22, { vs := [1, 2, 3, 4, 5, 6, 7], keep := [(0, [(1, .v), (5, .v), (6, .v), (7, .v)])] }),
  (23, { vs := [4, 5], keep := [(0, [(0, .v), (1, .v), (5, .v)])] }),
  (24, { vs := [4, 5] }),
  (25, { vs := [4, 5] }),
  (26, { vs := [8, 9, 10, 11, 12, 13, 14] }),
  (27, { vs := [8, 9, 10, 11, 12, 13] }),
  (28, { vs := [2, 3] }),
  (29, { vs := [2, 3] }),
  (30, { vs := [4, 5], keep := [(0, [(0, .v), (1, .v), (5, .v)])] }),
  (31, { vs := [4, 5], keep := [(0, [(0, .v), (1, .v), (5, .v)])], modes := [.l] }),
  (32, { vs := [4, 5], keep := [(0, [(0, .v), (1, .v), (5, .v)])], modes := [.l] }),
  (33, { vs := [4, 5], keep := [(0, [(0, .v), (1, .v), (5, .v)])] }),
  (34, { vs := [4, 5, 6, 7, 8] }),
  (35, { vs := [4, 5, 6, 7, 8] }),
  (36, { vs := [4, 5], keep := [(0, [(0, .v), (1, .v), (5, .v)])] }),
  (37, { vs := [4, 5, 6, 7] }),
  (38, { vs := [4, 5, 6, 7, 8, 9, 10, 12, 13, 46, 47, 48], keep := [(0, [(1, .v), (10, .o 1 true), (46, .v), (47, .v), (48, .v)])] }),
  (39, { vs := [4, 5], keep := [(0, [(0, .v), (1, .v), (5, .v)])] }),
  (40, { vs := [4, 5], keep := [(0, [(0, .v), (1, .v), (5, .v)])], modes := [.l] }),
  (41, { vs := [4, 5], keep := [(0, [(0, .v), (1, .v), (5, .v)])] }),
  (42, { vs := [4, 5, 6, 7, 8] }),
  (43, { vs := [4, 5, 6, 7, 8] }),
  (44, { vs := [6, 7, 8, 9, 10] }),
  (45, { vs := [6, 7, 8, 9, 10] }),
  (46, { vs := [8, 9, 10, 11, 12] }),
  (47, { vs := [8, 9, 10, 11, 12] }),
  (48, { vs := [6, 7, 8, 9, 10] }),
  (49, { vs := [6, 7, 8, 9, 10] }),
  (50, { vs := [2, 3, 4], keep := [(0, [(3, .v), (4, .v)])] }),
  (51, { vs := [3, 4] }),
  (52, { vs := [4] }),
  (53, { vs := [2, 3, 4, 5, 7, 8], keep := [(0, [(0, .v), (7, .v), (8, .v)])] }),
  (54, { vs := [2, 3], keep := [(0, [(0, .v), (3, .v)])] }),
  (55, { vs := [2] }),
  (56, { vs := [2] }),
  (57, { vs := [2, 4] }),
  (58, { vs := [4, 5] }),
  (59, { vs := [1, 2, 3] }),
  (60, { vs := [3, 4] }),
  (61, { vs := [2, 3] }),
  (62, { vs := [4, 5, 6, 7] }),
  (63, { vs := [2, 3, 4] }),
  (64, { vs := [4, 5], keep := [(0, [(0, .v), (1, .v), (5, .v)])] }),
  (65, { vs := [2] }),
  (66, { vs := [4, 5, 12, 13], keep := [(0, [(0, .v), (1, .v), (12, .v), (13, .v)])] }),
  (67, { vs := [4] }),
  (68, { vs := [4, 5, 6] }),
  (69, { vs := [4] }),
  (70, { vs := [4, 5, 6, 7] }),
  (71, { vs := [2, 3, 4, 5], keep := [(0, [(0, .v), (3, .o 1 true), (4, .v)]), (1000006, []), (1000007, [])] }),
  (72, { vs := [2, 3, 5, 9, 10, 11], keep := [(0, [(3, .v), (9, .v), (10, .v), (11, .v)])] }),
  (73, { vs := [2, 3], keep := [(0, [(0, .v), (3, .v)])] }),
  (74, { vs := [4, 5, 6, 7], keep := [(0, [(0, .v), (1, .v), (6, .v), (7, .v)]), (1000009, [])] }),
  (75, { vs := [3, 4, 5, 6, 7] }),
  (76, { vs := [6, 7], modes := [.b, .m] }),
  (77, { vs := [4, 5, 6, 7], keep := [(0, [(0, .v), (1, .v), (5, .o 1 true), (6, .v)])] }),
  (78, { vs := [4, 5], keep := [(0, [(0, .v), (1, .v), (5, .v)])] }),
  (79, { vs := [4, 5] }),
  (80, { vs := [4, 5] }),
  (81, { vs := [4, 5, 6] }),
  (82, { vs := [4, 5, 6, 7, 8] }),
  (83, { vs := [6, 7, 8, 9, 10, 11] }),
  (84, { vs := [6, 7, 8, 9, 10] }),
  (85, { vs := [8, 9, 10, 11, 12, 13, 14], keep := [(0, [(0, .v), (2, .v), (3, .v), (11, .v), (13, .o 1 true)]), (2, [(0, .v), (2, .v), (3, .v), (11, .v), (13, .v), (14, .v)])] }),
  (86, { vs := [8, 9, 10, 11, 12, 13, 14] }),
  (87, { vs := [6, 7, 8, 9, 10, 11, 12, 13, 14, 15], keep := [(1, [(0, .v), (1, .v), (2, .v), (11, .o 3 true), (12, .o 3 true), (13, .v)]), (4, [(11, .o 3 true), (12, .v), (15, .v)])] }),
  (88, { vs := [6, 7, 8, 9, 10, 11, 12, 13, 15, 62, 63, 64], keep := [(1, [(1, .v), (2, .v), (13, .o 3 true), (62, .v), (63, .v), (64, .v)])] }),
  (89, { vs := [4, 5, 6, 7], keep := [(0, [(0, .v), (1, .v), (5, .o 1 true), (6, .v), (7, .v)])] }),
  (90, { vs := [2] }),
  (91, { vs := [4] }),
  (92, { vs := [3] }),
  (93, { vs := [8, 9, 10, 11], keep := [(0, [(0, .v), (1, .v), (2, .v), (3, .v), (9, .v), (10, .v)])] }),
  (94, { vs := [6] }),
  (95, { vs := [2] }),
  (96, { vs := [4] }),
  (97, { vs := [2, 3] }),
  (98, { vs := [2] }),
  (99, { vs := [2] }),
  (100, { vs := [4, 5, 6], keep := [(0, [(0, .v), (5, .v), (6, .v)])] }),
  (101, { vs := [2] }),
  (102, { vs := [4] }),
  (103, { vs := [2, 3] }),
  (104, { vs := [4] }),
  (105, { vs := [6, 7], modes := [.m] }),
  (106, { vs := [2] }),
  (107, { vs := [6, 7, 8, 9, 10, 11], keep := [(0, [(0, .v), (1, .v), (2, .v), (8, .v), (9, .v), (10, .v)])] }),
  (108, { vs := [2, 4] }),
  (109, { vs := [4] }),
  (110, { vs := [4, 5], keep := [(0, [(0, .v), (1, .v), (5, .v)])] }),
  (111, { vs := [4, 5, 6, 7, 8, 9, 10, 11], keep := [(0, [(0, .v), (1, .v), (5, .v), (6, .v), (7, .v), (8, .v), (9, .v), (10, .v)]), (2, [(0, .v), (1, .v), (5, .v), (6, .v), (7, .v), (9, .v), (11, .v)])] }),
  (112, { vs := [4, 5] }),
  (113, { vs := [3, 4, 5, 6, 7], keep := [(0, [(0, .v), (3, .v), (5, .o 3 true), (6, .v), (7, .v)])] }),
  (114, { vs := [4, 5] }),
  (115, { vs := [6, 7, 8, 9], modes := [.m] }),
  (116, { vs := [6] }),
  (117, { vs := [4] }),
  (118, { vs := [4] }),
  (119, { vs := [2, 3, 4] }),
  (120, { vs := [2, 3], keep := [(0, [(0, .v), (3, .v)])] }),
  (121, { vs := [4, 5, 7, 8], keep := [(0, [(0, .v), (1, .v), (7, .v), (8, .v)])] }),
  (122, { vs := [4, 5, 6, 7, 9], keep := [(0, [(0, .v), (1, .v), (6, .v), (7, .v)])] }),
  (123, { vs := [4, 5, 6], keep := [(0, [(0, .v), (1, .v), (5, .v)])] }),
  (124, { vs := [4] }),
  (125, { vs := [4, 5, 7, 8], keep := [(0, [(0, .v), (1, .v), (7, .v), (8, .v)])] }),
  (126, { vs := [4] }),
  (127, { vs := [4] }),
  (128, { vs := [2, 3, 4, 5, 6, 7, 8], keep := [(0, [(0, .v), (4, .v), (5, .v)]), (2, [(4, .v), (6, .v), (7, .v), (8, .v)])] }),
  (131, { vs := [4, 5, 6, 7, 8, 9, 10, 11, 42], keep := [(3, [(7, .v), (8, .v), (9, .v)])] }),
  (132, { vs := [10, 11, 12, 13, 14, 15, 16, 17, 18, 19, 20], keep := [(0, [(0, .v), (1, .v), (2, .v), (3, .v), (4, .v), (10, .v), (11, .v)])] }),
  (133, { vs := [2] }),
  (134, { vs := [2] }),
  (135, { vs := [2] }),
  (136, { vs := [2, 4], keep := [(0, [(2, .v), (4, .v)])] }),
  (137, { vs := [2, 3] }),
  (139, { vs := [4, 5, 6, 7, 8, 9, 10, 11, 12, 13], keep := [(1, [(0, .v), (1, .v), (5, .v), (6, .v), (7, .v), (8, .v), (9, .v), (10, .v)])] }),
  (140, { vs := [4] }),
  (143, { vs := [4, 5, 6, 7, 8, 9] }),
  (145, { vs := [4, 5] }),
  (146, { vs := [2] }),
  (147, { vs := [2] }),
  (148, { vs := [8, 9], keep := [(0, [(0, .v), (1, .v), (2, .v), (3, .v), (8, .v)]), (2, [(0, .v), (1, .v), (2, .v), (3, .v), (8, .v), (9, .v)])] }),
  (149, { vs := [8, 9, 10, 11, 12], keep := [(0, [(0, .v), (3, .v), (8, .v), (9, .v), (10, .v), (11, .v)]), (2, [(0, .v), (3, .v), (8, .v), (9, .v), (12, .v)])] }),
  (150, { vs := [8, 9, 10, 11, 12], keep := [(0, [(0, .v), (1, .v), (8, .v), (9, .v), (10, .v), (11, .v)])] }),
  (151, { vs := [8, 9, 10, 11, 12, 13, 14, 55] }),
  (152, { vs := [8, 9], keep := [(0, [(0, .v), (8, .v), (9, .v)])] }),
  (153, { vs := [8, 9, 10, 11, 12], keep := [(0, [(0, .v), (1, .v), (2, .v), (3, .v), (9, .v), (10, .v)]), (2, [(0, .v), (1, .v), (2, .v), (3, .v), (9, .v), (10, .v)]), (4, [(0, .v), (1, .v), (2, .v), (3, .v), (9, .v), (10, .v), (11, .v)]), (6, [(0, .v), (1, .v), (2, .v), (3, .v), (9, .v), (10, .v), (12, .v)])] }),
  (154, { vs := [10, 11, 12], keep := [(0, [(0, .v), (1, .v), (4, .v), (11, .v), (12, .v)]), (2, [(0, .v), (1, .v), (4, .v), (11, .v), (12, .v)]), (4, [(0, .v), (1, .v), (4, .v), (11, .v), (12, .v)])] }),
  (155, { vs := [10, 11, 12, 13], keep := [(0, [(0, .v), (1, .v), (4, .v), (12, .v), (13, .v)]), (2, [(0, .v), (1, .v), (4, .v), (12, .v), (13, .v)]), (4, [(0, .v), (1, .v), (4, .v), (12, .v), (13, .v)]), (6, [(0, .v), (1, .v), (4, .v), (12, .v), (13, .v)]), (8, [(0, .v), (1, .v), (4, .v), (12, .v), (13, .v)])] }),
  (156, { vs := [2] }),
  (157, { vs := [2] }),
  (158, { vs := [2, 3, 4, 5, 6, 7, 8, 9, 10, 11, 12] }),
  (159, { vs := [4] }),
  (161, { vs := [2] }),
  (162, { vs := [4, 5, 6, 7, 8, 9, 10], keep := [(0, [(0, .v), (1, .v), (5, .v), (6, .v), (7, .v), (8, .v), (9, .v)]), (2, [(0, .v), (1, .v), (5, .v), (6, .v), (7, .v), (8, .v), (10, .v)])] }),
  (163, { vs := [2, 3], keep := [(0, [(0, .v), (2, .v), (3, .v)])] }),
  (164, { vs := [4, 5, 6] }),
  (165, { vs := [4, 5, 6, 7, 8, 9, 10, 11, 12, 13] }),
  (167, { vs := [4] }),
  (168, { vs := [10, 11], keep := [(0, [(0, .v), (2, .v), (3, .v), (4, .v), (10, .v)])] }),
  (169, { vs := [2] }),
  (170, { vs := [2] }),
  (171, { vs := [8] }),
  (172, { vs := [12] }),
  (174, { vs := [2, 3, 4, 5, 6, 7, 8], keep := [(0, [(0, .v), (4, .v), (5, .v)]), (2, [(4, .v), (6, .v), (7, .v), (8, .v)])] }),
  (177, { vs := [10, 11] })]
def annOf : List (Nat × Ann) → Nat → Ann
  | [], _ => {}
  | (k, a) :: l, f => if k = f then a else annOf l f
def ann (f : FuncId) : Ann := annOf annL f
@[go_sem] theorem ty3 : tyOf Go.Proofs.Tryd.prog 3 = .int .i64 := by kernel_rfl
@[go_sem] theorem sz3 : szOf Go.Proofs.Tryd.prog 3 = 1 := by kernel_rfl
@[go_sem] theorem by3 : byOf Go.Proofs.Tryd.prog 3 = 8 := by kernel_rfl
@[go_sem] theorem kn3 : known Go.Proofs.Tryd.prog 3 = true := by kernel_rfl
@[go_sem] theorem zk3 : zeroOk Go.Proofs.Tryd.prog 3 = true := by kernel_rfl
@[go_sem] theorem ze3 : zeOf Go.Proofs.Tryd.prog 3 = .int .i64 0 := by kernel_rfl
@[go_sem] theorem ty4 : tyOf Go.Proofs.Tryd.prog 4 = .bool := by kernel_rfl
@[go_sem] theorem sz4 : szOf Go.Proofs.Tryd.prog 4 = 1 := by kernel_rfl
@[go_sem] theorem by4 : byOf Go.Proofs.Tryd.prog 4 = 1 := by kernel_rfl
@[go_sem] theorem kn4 : known Go.Proofs.Tryd.prog 4 = true := by kernel_rfl
@[go_sem] theorem zk4 : zeroOk Go.Proofs.Tryd.prog 4 = true := by kernel_rfl
@[go_sem] theorem ze4 : zeOf Go.Proofs.Tryd.prog 4 = .bool false := by kernel_rfl
@[go_sem] theorem ty5 : tyOf Go.Proofs.Tryd.prog 5 = .int .u8 := by kernel_rfl
@[go_sem] theorem sz5 : szOf Go.Proofs.Tryd.prog 5 = 1 := by kernel_rfl
@[go_sem] theorem by5 : byOf Go.Proofs.Tryd.prog 5 = 1 := by kernel_rfl
@[go_sem] theorem kn5 : known Go.Proofs.Tryd.prog 5 = true := by kernel_rfl
@[go_sem] theorem zk5 : zeroOk Go.Proofs.Tryd.prog 5 = true := by kernel_rfl
@[go_sem] theorem ze5 : zeOf Go.Proofs.Tryd.prog 5 = .int .u8 0 := by kernel_rfl
@[go_sem] theorem ty9 : tyOf Go.Proofs.Tryd.prog 9 = .str := by kernel_rfl
@[go_sem] theorem sz9 : szOf Go.Proofs.Tryd.prog 9 = 1 := by kernel_rfl
@[go_sem] theorem by9 : byOf Go.Proofs.Tryd.prog 9 = 16 := by kernel_rfl
@[go_sem] theorem kn9 : known Go.Proofs.Tryd.prog 9 = true := by kernel_rfl
@[go_sem] theorem zk9 : zeroOk Go.Proofs.Tryd.prog 9 = true := by kernel_rfl
@[go_sem] theorem ze9 : zeOf Go.Proofs.Tryd.prog 9 = .str [] := by kernel_rfl
@[go_sem] theorem ty21 : tyOf Go.Proofs.Tryd.prog 21 = .int .i32 := by kernel_rfl
@[go_sem] theorem sz21 : szOf Go.Proofs.Tryd.prog 21 = 1 := by kernel_rfl
@[go_sem] theorem by21 : byOf Go.Proofs.Tryd.prog 21 = 4 := by kernel_rfl
@[go_sem] theorem kn21 : known Go.Proofs.Tryd.prog 21 = true := by kernel_rfl
@[go_sem] theorem zk21 : zeroOk Go.Proofs.Tryd.prog 21 = true := by kernel_rfl
@[go_sem] theorem ze21 : zeOf Go.Proofs.Tryd.prog 21 = .int .i32 0 := by kernel_rfl
@[go_sem] theorem ty22 : tyOf Go.Proofs.Tryd.prog 22 = .func := by kernel_rfl
@[go_sem] theorem sz22 : szOf Go.Proofs.Tryd.prog 22 = 1 := by kernel_rfl
@[go_sem] theorem by22 : byOf Go.Proofs.Tryd.prog 22 = 8 := by kernel_rfl
@[go_sem] theorem kn22 : known Go.Proofs.Tryd.prog 22 = true := by kernel_rfl
@[go_sem] theorem zk22 : zeroOk Go.Proofs.Tryd.prog 22 = true := by kernel_rfl
@[go_sem] theorem ze22 : zeOf Go.Proofs.Tryd.prog 22 = .nilf := by kernel_rfl
@[go_sem] theorem ty25 : tyOf Go.Proofs.Tryd.prog 25 = .slice 63 := by kernel_rfl
@[go_sem] theorem sz25 : szOf Go.Proofs.Tryd.prog 25 = 1 := by kernel_rfl
@[go_sem] theorem by25 : byOf Go.Proofs.Tryd.prog 25 = 24 := by kernel_rfl
@[go_sem] theorem kn25 : known Go.Proofs.Tryd.prog 25 = true := by kernel_rfl
@[go_sem] theorem zk25 : zeroOk Go.Proofs.Tryd.prog 25 = true := by kernel_rfl
@[go_sem] theorem ze25 : zeOf Go.Proofs.Tryd.prog 25 = .nils := by kernel_rfl
@[go_sem] theorem ty28 : tyOf Go.Proofs.Tryd.prog 28 = .slice 64 := by kernel_rfl
@[go_sem] theorem sz28 : szOf Go.Proofs.Tryd.prog 28 = 1 := by kernel_rfl
@[go_sem] theorem by28 : byOf Go.Proofs.Tryd.prog 28 = 24 := by kernel_rfl
@[go_sem] theorem kn28 : known Go.Proofs.Tryd.prog 28 = true := by kernel_rfl
@[go_sem] theorem zk28 : zeroOk Go.Proofs.Tryd.prog 28 = true := by kernel_rfl
@[go_sem] theorem ze28 : zeOf Go.Proofs.Tryd.prog 28 = .nils := by kernel_rfl
@[go_sem] theorem ty37 : tyOf Go.Proofs.Tryd.prog 37 = .slice 5 := by kernel_rfl
@[go_sem] theorem sz37 : szOf Go.Proofs.Tryd.prog 37 = 1 := by kernel_rfl
@[go_sem] theorem by37 : byOf Go.Proofs.Tryd.prog 37 = 24 := by kernel_rfl
@[go_sem] theorem kn37 : known Go.Proofs.Tryd.prog 37 = true := by kernel_rfl
@[go_sem] theorem zk37 : zeroOk Go.Proofs.Tryd.prog 37 = true := by kernel_rfl
@[go_sem] theorem ze37 : zeOf Go.Proofs.Tryd.prog 37 = .nils := by kernel_rfl
@[go_sem] theorem ty46 : tyOf Go.Proofs.Tryd.prog 46 = .slice 9 := by kernel_rfl
@[go_sem] theorem sz46 : szOf Go.Proofs.Tryd.prog 46 = 1 := by kernel_rfl
@[go_sem] theorem by46 : byOf Go.Proofs.Tryd.prog 46 = 24 := by kernel_rfl
@[go_sem] theorem kn46 : known Go.Proofs.Tryd.prog 46 = true := by kernel_rfl
@[go_sem] theorem zk46 : zeroOk Go.Proofs.Tryd.prog 46 = true := by kernel_rfl
@[go_sem] theorem ze46 : zeOf Go.Proofs.Tryd.prog 46 = .nils := by kernel_rfl
@[go_sem] theorem ty63 : tyOf Go.Proofs.Tryd.prog 63 = .strct [(0, 9), (1, 4), (2, 9)] := by kernel_rfl
@[go_sem] theorem sz63 : szOf Go.Proofs.Tryd.prog 63 = 3 := by kernel_rfl
@[go_sem] theorem by63 : byOf Go.Proofs.Tryd.prog 63 = 40 := by kernel_rfl
@[go_sem] theorem kn63 : known Go.Proofs.Tryd.prog 63 = true := by kernel_rfl
@[go_sem] theorem zk63 : zeroOk Go.Proofs.Tryd.prog 63 = true := by kernel_rfl
@[go_sem] theorem ze63 : zeOf Go.Proofs.Tryd.prog 63 = .agg [.str [], .bool false, .str []] := by kernel_rfl
@[go_sem] theorem fl63_0 : fldOf Go.Proofs.Tryd.prog 63 0 = some (0, 1, false) := by kernel_rfl
@[go_sem] theorem fl63_1 : fldOf Go.Proofs.Tryd.prog 63 1 = some (1, 1, false) := by kernel_rfl
@[go_sem] theorem fl63_2 : fldOf Go.Proofs.Tryd.prog 63 2 = some (2, 1, false) := by kernel_rfl
@[go_sem] theorem ft63 : flatTy Go.Proofs.Tryd.prog 63 = true := by kernel_rfl
@[go_sem] theorem ty64 : tyOf Go.Proofs.Tryd.prog 64 = .strct [(0, 9), (1, 4), (2, 9)] := by kernel_rfl
@[go_sem] theorem sz64 : szOf Go.Proofs.Tryd.prog 64 = 3 := by kernel_rfl
@[go_sem] theorem by64 : byOf Go.Proofs.Tryd.prog 64 = 40 := by kernel_rfl
@[go_sem] theorem kn64 : known Go.Proofs.Tryd.prog 64 = true := by kernel_rfl
@[go_sem] theorem zk64 : zeroOk Go.Proofs.Tryd.prog 64 = true := by kernel_rfl
@[go_sem] theorem ze64 : zeOf Go.Proofs.Tryd.prog 64 = .agg [.str [], .bool false, .str []] := by kernel_rfl
@[go_sem] theorem fl64_0 : fldOf Go.Proofs.Tryd.prog 64 0 = some (0, 1, false) := by kernel_rfl
@[go_sem] theorem fl64_1 : fldOf Go.Proofs.Tryd.prog 64 1 = some (1, 1, false) := by kernel_rfl
@[go_sem] theorem fl64_2 : fldOf Go.Proofs.Tryd.prog 64 2 = some (2, 1, false) := by kernel_rfl
@[go_sem] theorem ft64 : flatTy Go.Proofs.Tryd.prog 64 = true := by kernel_rfl
@[go_sem] theorem ty68 : tyOf Go.Proofs.Tryd.prog 68 = .func := by kernel_rfl
@[go_sem] theorem sz68 : szOf Go.Proofs.Tryd.prog 68 = 1 := by kernel_rfl
@[go_sem] theorem by68 : byOf Go.Proofs.Tryd.prog 68 = 8 := by kernel_rfl
@[go_sem] theorem kn68 : known Go.Proofs.Tryd.prog 68 = true := by kernel_rfl
@[go_sem] theorem zk68 : zeroOk Go.Proofs.Tryd.prog 68 = true := by kernel_rfl
@[go_sem] theorem ze68 : zeOf Go.Proofs.Tryd.prog 68 = .nilf := by kernel_rfl
@[go_sem] theorem ty91 : tyOf Go.Proofs.Tryd.prog 91 = .func := by kernel_rfl
@[go_sem] theorem sz91 : szOf Go.Proofs.Tryd.prog 91 = 1 := by kernel_rfl
@[go_sem] theorem by91 : byOf Go.Proofs.Tryd.prog 91 = 8 := by kernel_rfl
@[go_sem] theorem kn91 : known Go.Proofs.Tryd.prog 91 = true := by kernel_rfl
@[go_sem] theorem zk91 : zeroOk Go.Proofs.Tryd.prog 91 = true := by kernel_rfl
@[go_sem] theorem ze91 : zeOf Go.Proofs.Tryd.prog 91 = .nilf := by kernel_rfl
@[go_sem] theorem ty97 : tyOf Go.Proofs.Tryd.prog 97 = .func := by kernel_rfl
@[go_sem] theorem sz97 : szOf Go.Proofs.Tryd.prog 97 = 1 := by kernel_rfl
@[go_sem] theorem by97 : byOf Go.Proofs.Tryd.prog 97 = 8 := by kernel_rfl
@[go_sem] theorem kn97 : known Go.Proofs.Tryd.prog 97 = true := by kernel_rfl
@[go_sem] theorem zk97 : zeroOk Go.Proofs.Tryd.prog 97 = true := by kernel_rfl
@[go_sem] theorem ze97 : zeOf Go.Proofs.Tryd.prog 97 = .nilf := by kernel_rfl
@[go_sem] theorem ty101 : tyOf Go.Proofs.Tryd.prog 101 = .int .u64 := by kernel_rfl
@[go_sem] theorem sz101 : szOf Go.Proofs.Tryd.prog 101 = 1 := by kernel_rfl
@[go_sem] theorem by101 : byOf Go.Proofs.Tryd.prog 101 = 8 := by kernel_rfl
@[go_sem] theorem kn101 : known Go.Proofs.Tryd.prog 101 = true := by kernel_rfl
@[go_sem] theorem zk101 : zeroOk Go.Proofs.Tryd.prog 101 = true := by kernel_rfl
@[go_sem] theorem ze101 : zeOf Go.Proofs.Tryd.prog 101 = .int .u64 0 := by kernel_rfl
@[go_sem] theorem ty102 : tyOf Go.Proofs.Tryd.prog 102 = .int .u32 := by kernel_rfl
@[go_sem] theorem sz102 : szOf Go.Proofs.Tryd.prog 102 = 1 := by kernel_rfl
@[go_sem] theorem by102 : byOf Go.Proofs.Tryd.prog 102 = 4 := by kernel_rfl
@[go_sem] theorem kn102 : known Go.Proofs.Tryd.prog 102 = true := by kernel_rfl
@[go_sem] theorem zk102 : zeroOk Go.Proofs.Tryd.prog 102 = true := by kernel_rfl
@[go_sem] theorem ze102 : zeOf Go.Proofs.Tryd.prog 102 = .int .u32 0 := by kernel_rfl
@[go_sem] theorem ty114 : tyOf Go.Proofs.Tryd.prog 114 = .ptr 116 := by kernel_rfl
@[go_sem] theorem sz114 : szOf Go.Proofs.Tryd.prog 114 = 1 := by kernel_rfl
@[go_sem] theorem by114 : byOf Go.Proofs.Tryd.prog 114 = 8 := by kernel_rfl
@[go_sem] theorem kn114 : known Go.Proofs.Tryd.prog 114 = true := by kernel_rfl
@[go_sem] theorem zk114 : zeroOk Go.Proofs.Tryd.prog 114 = true := by kernel_rfl
@[go_sem] theorem ze114 : zeOf Go.Proofs.Tryd.prog 114 = .undef := by kernel_rfl
@[go_sem] theorem ty116 : tyOf Go.Proofs.Tryd.prog 116 = .strct [(0, 114), (1, 37)] := by kernel_rfl
@[go_sem] theorem sz116 : szOf Go.Proofs.Tryd.prog 116 = 2 := by kernel_rfl
@[go_sem] theorem by116 : byOf Go.Proofs.Tryd.prog 116 = 32 := by kernel_rfl
@[go_sem] theorem kn116 : known Go.Proofs.Tryd.prog 116 = true := by kernel_rfl
@[go_sem] theorem zk116 : zeroOk Go.Proofs.Tryd.prog 116 = true := by kernel_rfl
@[go_sem] theorem ze116 : zeOf Go.Proofs.Tryd.prog 116 = .agg [.undef, .nils] := by kernel_rfl
@[go_sem] theorem fl116_0 : fldOf Go.Proofs.Tryd.prog 116 0 = some (0, 1, false) := by kernel_rfl
@[go_sem] theorem fl116_1 : fldOf Go.Proofs.Tryd.prog 116 1 = some (1, 1, false) := by kernel_rfl
@[go_sem] theorem ft116 : flatTy Go.Proofs.Tryd.prog 116 = false := by kernel_rfl
@[go_sem] theorem ty125 : tyOf Go.Proofs.Tryd.prog 125 = .int .i64 := by kernel_rfl
@[go_sem] theorem sz125 : szOf Go.Proofs.Tryd.prog 125 = 1 := by kernel_rfl
@[go_sem] theorem by125 : byOf Go.Proofs.Tryd.prog 125 = 8 := by kernel_rfl
@[go_sem] theorem kn125 : known Go.Proofs.Tryd.prog 125 = true := by kernel_rfl
@[go_sem] theorem zk125 : zeroOk Go.Proofs.Tryd.prog 125 = true := by kernel_rfl
@[go_sem] theorem ze125 : zeOf Go.Proofs.Tryd.prog 125 = .int .i64 0 := by kernel_rfl
@[go_sem] theorem ty133 : tyOf Go.Proofs.Tryd.prog 133 = .int .u64 := by kernel_rfl
@[go_sem] theorem sz133 : szOf Go.Proofs.Tryd.prog 133 = 1 := by kernel_rfl
@[go_sem] theorem by133 : byOf Go.Proofs.Tryd.prog 133 = 8 := by kernel_rfl
@[go_sem] theorem kn133 : known Go.Proofs.Tryd.prog 133 = true := by kernel_rfl
@[go_sem] theorem zk133 : zeroOk Go.Proofs.Tryd.prog 133 = true := by kernel_rfl
@[go_sem] theorem ze133 : zeOf Go.Proofs.Tryd.prog 133 = .int .u64 0 := by kernel_rfl
@[go_sem] theorem ty139 : tyOf Go.Proofs.Tryd.prog 139 = .ptr 5 := by kernel_rfl
@[go_sem] theorem sz139 : szOf Go.Proofs.Tryd.prog 139 = 1 := by kernel_rfl
@[go_sem] theorem by139 : byOf Go.Proofs.Tryd.prog 139 = 8 := by kernel_rfl
@[go_sem] theorem kn139 : known Go.Proofs.Tryd.prog 139 = true := by kernel_rfl
@[go_sem] theorem zk139 : zeroOk Go.Proofs.Tryd.prog 139 = true := by kernel_rfl
@[go_sem] theorem ze139 : zeOf Go.Proofs.Tryd.prog 139 = .undef := by kernel_rfl
@[go_sem] theorem ty140 : tyOf Go.Proofs.Tryd.prog 140 = .int .u64 := by kernel_rfl
@[go_sem] theorem sz140 : szOf Go.Proofs.Tryd.prog 140 = 1 := by kernel_rfl
@[go_sem] theorem by140 : byOf Go.Proofs.Tryd.prog 140 = 8 := by kernel_rfl
@[go_sem] theorem kn140 : known Go.Proofs.Tryd.prog 140 = true := by kernel_rfl
@[go_sem] theorem zk140 : zeroOk Go.Proofs.Tryd.prog 140 = true := by kernel_rfl
@[go_sem] theorem ze140 : zeOf Go.Proofs.Tryd.prog 140 = .int .u64 0 := by kernel_rfl
@[go_sem] theorem ty144 : tyOf Go.Proofs.Tryd.prog 144 = .ptr 3 := by kernel_rfl
@[go_sem] theorem sz144 : szOf Go.Proofs.Tryd.prog 144 = 1 := by kernel_rfl
@[go_sem] theorem by144 : byOf Go.Proofs.Tryd.prog 144 = 8 := by kernel_rfl
@[go_sem] theorem kn144 : known Go.Proofs.Tryd.prog 144 = true := by kernel_rfl
@[go_sem] theorem zk144 : zeroOk Go.Proofs.Tryd.prog 144 = true := by kernel_rfl
@[go_sem] theorem ze144 : zeOf Go.Proofs.Tryd.prog 144 = .undef := by kernel_rfl
@[go_sem] theorem ty146 : tyOf Go.Proofs.Tryd.prog 146 = .arr 256 5 := by kernel_rfl
@[go_sem] theorem sz146 : szOf Go.Proofs.Tryd.prog 146 = 256 := by kernel_rfl
@[go_sem] theorem by146 : byOf Go.Proofs.Tryd.prog 146 = 256 := by kernel_rfl
@[go_sem] theorem kn146 : known Go.Proofs.Tryd.prog 146 = true := by kernel_rfl
@[go_sem] theorem zk146 : zeroOk Go.Proofs.Tryd.prog 146 = true := by kernel_rfl
@[go_sem] theorem ty148 : tyOf Go.Proofs.Tryd.prog 148 = .strct [(0, 5), (1, 5)] := by kernel_rfl
@[go_sem] theorem sz148 : szOf Go.Proofs.Tryd.prog 148 = 2 := by kernel_rfl
@[go_sem] theorem by148 : byOf Go.Proofs.Tryd.prog 148 = 2 := by kernel_rfl
@[go_sem] theorem kn148 : known Go.Proofs.Tryd.prog 148 = true := by kernel_rfl
@[go_sem] theorem zk148 : zeroOk Go.Proofs.Tryd.prog 148 = true := by kernel_rfl
@[go_sem] theorem ze148 : zeOf Go.Proofs.Tryd.prog 148 = .agg [.int .u8 0, .int .u8 0] := by kernel_rfl
@[go_sem] theorem fl148_0 : fldOf Go.Proofs.Tryd.prog 148 0 = some (0, 1, false) := by kernel_rfl
@[go_sem] theorem fl148_1 : fldOf Go.Proofs.Tryd.prog 148 1 = some (1, 1, false) := by kernel_rfl
@[go_sem] theorem ft148 : flatTy Go.Proofs.Tryd.prog 148 = true := by kernel_rfl
@[go_sem] theorem ty149 : tyOf Go.Proofs.Tryd.prog 149 = .arr 16 148 := by kernel_rfl
@[go_sem] theorem sz149 : szOf Go.Proofs.Tryd.prog 149 = 32 := by kernel_rfl
@[go_sem] theorem by149 : byOf Go.Proofs.Tryd.prog 149 = 32 := by kernel_rfl
@[go_sem] theorem kn149 : known Go.Proofs.Tryd.prog 149 = true := by kernel_rfl
@[go_sem] theorem zk149 : zeroOk Go.Proofs.Tryd.prog 149 = true := by kernel_rfl
@[go_sem] theorem ty152 : tyOf Go.Proofs.Tryd.prog 152 = .ptr 140 := by kernel_rfl
@[go_sem] theorem sz152 : szOf Go.Proofs.Tryd.prog 152 = 1 := by kernel_rfl
@[go_sem] theorem by152 : byOf Go.Proofs.Tryd.prog 152 = 8 := by kernel_rfl
@[go_sem] theorem kn152 : known Go.Proofs.Tryd.prog 152 = true := by kernel_rfl
@[go_sem] theorem zk152 : zeroOk Go.Proofs.Tryd.prog 152 = true := by kernel_rfl
@[go_sem] theorem ze152 : zeOf Go.Proofs.Tryd.prog 152 = .undef := by kernel_rfl
@[go_sem] theorem an3 : ann 3 = { vs := [2, 3, 4] } := by kernel_rfl
@[go_sem] theorem an4 : ann 4 = { vs := [2, 3, 4, 5, 6] } := by kernel_rfl
@[go_sem] theorem an5 : ann 5 = { vs := [2, 3, 4, 5, 6] } := by kernel_rfl
@[go_sem] theorem an6 : ann 6 = { vs := [4, 5, 6, 7, 8, 9, 10, 11] } := by kernel_rfl
@[go_sem] theorem an7 : ann 7 = { vs := [8, 9, 10, 11, 12, 13, 14] } := by kernel_rfl
@[go_sem] theorem an8 : ann 8 = { vs := [2, 3, 4, 5, 6, 7, 8, 9, 10, 11, 12, 13] } := by kernel_rfl
@[go_sem] theorem an9 : ann 9 = { vs := [4, 5, 6, 7, 8, 9, 10, 11, 12, 13, 14, 15] } := by kernel_rfl
@[go_sem] theorem an10 : ann 10 = { vs := [4, 5, 6, 7, 8, 9, 10, 11, 12, 13, 14, 15] } := by kernel_rfl
@[go_sem] theorem an11 : ann 11 = { vs := [4, 5, 6, 7, 8, 9, 10, 11, 12, 13, 14, 15] } := by kernel_rfl
@[go_sem] theorem an12 : ann 12 = { vs := [6, 7, 8, 9, 10, 11, 12, 13, 14, 15, 16, 17] } := by kernel_rfl
@[go_sem] theorem an13 : ann 13 = { vs := [8, 9, 10, 11, 12, 13, 14, 15, 16, 17, 18, 19] } := by kernel_rfl
@[go_sem] theorem an14 : ann 14 = { vs := [6, 7, 8, 9, 10, 11, 12, 13, 14, 15, 16, 17] } := by kernel_rfl
@[go_sem] theorem an15 : ann 15 = { vs := [2] } := by kernel_rfl
@[go_sem] theorem an16 : ann 16 = { vs := [2] } := by kernel_rfl
@[go_sem] theorem an17 : ann 17 = { vs := [2, 3] } := by kernel_rfl
@[go_sem] theorem an18 : ann 18 = { vs := [2, 3] } := by kernel_rfl
@[go_sem] theorem an19 : ann 19 = { vs := [4, 5], keep := [(0, [(0, .v), (1, .v), (5, .v)])] } := by kernel_rfl
@[go_sem] theorem an20 : ann 20 = { vs := [2, 3, 4], keep := [(0, [(0, .v), (3, .v)])] } := by kernel_rfl
@[go_sem] theorem an21 : ann 21 = { vs := [2, 3, 4], keep := [(0, [(0, .v), (3, .v), (4, .v)])] } := by kernel_rfl
@[go_sem] theorem an22 : ann 22 = { vs := [1, 2, 3, 4, 5, 6, 7], keep := [(0, [(1, .v), (5, .v), (6, .v), (7, .v)])] } := by kernel_rfl
@[go_sem] theorem an23 : ann 23 = { vs := [4, 5], keep := [(0, [(0, .v), (1, .v), (5, .v)])] } := by kernel_rfl
@[go_sem] theorem an24 : ann 24 = { vs := [4, 5] } := by kernel_rfl
@[go_sem] theorem an25 : ann 25 = { vs := [4, 5] } := by kernel_rfl
@[go_sem] theorem an26 : ann 26 = { vs := [8, 9, 10, 11, 12, 13, 14] } := by kernel_rfl
@[go_sem] theorem an27 : ann 27 = { vs := [8, 9, 10, 11, 12, 13] } := by kernel_rfl
@[go_sem] theorem an28 : ann 28 = { vs := [2, 3] } := by kernel_rfl
@[go_sem] theorem an29 : ann 29 = { vs := [2, 3] } := by kernel_rfl
@[go_sem] theorem an30 : ann 30 = { vs := [4, 5], keep := [(0, [(0, .v), (1, .v), (5, .v)])] } := by kernel_rfl
@[go_sem] theorem an31 : ann 31 = { vs := [4, 5], keep := [(0, [(0, .v), (1, .v), (5, .v)])], modes := [.l] } := by kernel_rfl
@[go_sem] theorem an32 : ann 32 = { vs := [4, 5], keep := [(0, [(0, .v), (1, .v), (5, .v)])], modes := [.l] } := by kernel_rfl
@[go_sem] theorem an33 : ann 33 = { vs := [4, 5], keep := [(0, [(0, .v), (1, .v), (5, .v)])] } := by kernel_rfl
@[go_sem] theorem an34 : ann 34 = { vs := [4, 5, 6, 7, 8] } := by kernel_rfl
@[go_sem] theorem an35 : ann 35 = { vs := [4, 5, 6, 7, 8] } := by kernel_rfl
@[go_sem] theorem an36 : ann 36 = { vs := [4, 5], keep := [(0, [(0, .v), (1, .v), (5, .v)])] } := by kernel_rfl
@[go_sem] theorem an37 : ann 37 = { vs := [4, 5, 6, 7] } := by kernel_rfl
@[go_sem] theorem an38 : ann 38 = { vs := [4, 5, 6, 7, 8, 9, 10, 12, 13, 46, 47, 48], keep := [(0, [(1, .v), (10, .o 1 true), (46, .v), (47, .v), (48, .v)])] } := by kernel_rfl
@[go_sem] theorem an39 : ann 39 = { vs := [4, 5], keep := [(0, [(0, .v), (1, .v), (5, .v)])] } := by kernel_rfl
@[go_sem] theorem an40 : ann 40 = { vs := [4, 5], keep := [(0, [(0, .v), (1, .v), (5, .v)])], modes := [.l] } := by kernel_rfl
@[go_sem] theorem an41 : ann 41 = { vs := [4, 5], keep := [(0, [(0, .v), (1, .v), (5, .v)])] } := by kernel_rfl
@[go_sem] theorem an42 : ann 42 = { vs := [4, 5, 6, 7, 8] } := by kernel_rfl
@[go_sem] theorem an43 : ann 43 = { vs := [4, 5, 6, 7, 8] } := by kernel_rfl
@[go_sem] theorem an44 : ann 44 = { vs := [6, 7, 8, 9, 10] } := by kernel_rfl
@[go_sem] theorem an45 : ann 45 = { vs := [6, 7, 8, 9, 10] } := by kernel_rfl
@[go_sem] theorem an46 : ann 46 = { vs := [8, 9, 10, 11, 12] } := by kernel_rfl
@[go_sem] theorem an47 : ann 47 = { vs := [8, 9, 10, 11, 12] } := by kernel_rfl
@[go_sem] theorem an48 : ann 48 = { vs := [6, 7, 8, 9, 10] } := by kernel_rfl
@[go_sem] theorem an49 : ann 49 = { vs := [6, 7, 8, 9, 10] } := by kernel_rfl
@[go_sem] theorem an50 : ann 50 = { vs := [2, 3, 4], keep := [(0, [(3, .v), (4, .v)])] } := by kernel_rfl
@[go_sem] theorem an51 : ann 51 = { vs := [3, 4] } := by kernel_rfl
@[go_sem] theorem an52 : ann 52 = { vs := [4] } := by kernel_rfl
@[go_sem] theorem an53 : ann 53 = { vs := [2, 3, 4, 5, 7, 8], keep := [(0, [(0, .v), (7, .v), (8, .v)])] } := by kernel_rfl
@[go_sem] theorem an54 : ann 54 = { vs := [2, 3], keep := [(0, [(0, .v), (3, .v)])] } := by kernel_rfl
@[go_sem] theorem an55 : ann 55 = { vs := [2] } := by kernel_rfl
@[go_sem] theorem an56 : ann 56 = { vs := [2] } := by kernel_rfl
@[go_sem] theorem an57 : ann 57 = { vs := [2, 4] } := by kernel_rfl
@[go_sem] theorem an58 : ann 58 = { vs := [4, 5] } := by kernel_rfl
@[go_sem] theorem an59 : ann 59 = { vs := [1, 2, 3] } := by kernel_rfl
@[go_sem] theorem an60 : ann 60 = { vs := [3, 4] } := by kernel_rfl
@[go_sem] theorem an61 : ann 61 = { vs := [2, 3] } := by kernel_rfl
@[go_sem] theorem an62 : ann 62 = { vs := [4, 5, 6, 7] } := by kernel_rfl
@[go_sem] theorem an63 : ann 63 = { vs := [2, 3, 4] } := by kernel_rfl
@[go_sem] theorem an64 : ann 64 = { vs := [4, 5], keep := [(0, [(0, .v), (1, .v), (5, .v)])] } := by kernel_rfl
@[go_sem] theorem an65 : ann 65 = { vs := [2] } := by kernel_rfl
@[go_sem] theorem an66 : ann 66 = { vs := [4, 5, 12, 13], keep := [(0, [(0, .v), (1, .v), (12, .v), (13, .v)])] } := by kernel_rfl
@[go_sem] theorem an67 : ann 67 = { vs := [4] } := by kernel_rfl
@[go_sem] theorem an68 : ann 68 = { vs := [4, 5, 6] } := by kernel_rfl
@[go_sem] theorem an69 : ann 69 = { vs := [4] } := by kernel_rfl
@[go_sem] theorem an70 : ann 70 = { vs := [4, 5, 6, 7] } := by kernel_rfl
@[go_sem] theorem an71 : ann 71 = { vs := [2, 3, 4, 5], keep := [(0, [(0, .v), (3, .o 1 true), (4, .v)]), (1000006, []), (1000007, [])] } := by kernel_rfl
@[go_sem] theorem an72 : ann 72 = { vs := [2, 3, 5, 9, 10, 11], keep := [(0, [(3, .v), (9, .v), (10, .v), (11, .v)])] } := by kernel_rfl
@[go_sem] theorem an73 : ann 73 = { vs := [2, 3], keep := [(0, [(0, .v), (3, .v)])] } := by kernel_rfl
@[go_sem] theorem an74 : ann 74 = { vs := [4, 5, 6, 7], keep := [(0, [(0, .v), (1, .v), (6, .v), (7, .v)]), (1000009, [])] } := by kernel_rfl
@[go_sem] theorem an75 : ann 75 = { vs := [3, 4, 5, 6, 7] } := by kernel_rfl
@[go_sem] theorem an76 : ann 76 = { vs := [6, 7], modes := [.b, .m] } := by kernel_rfl
@[go_sem] theorem an77 : ann 77 = { vs := [4, 5, 6, 7], keep := [(0, [(0, .v), (1, .v), (5, .o 1 true), (6, .v)])] } := by kernel_rfl
@[go_sem] theorem an78 : ann 78 = { vs := [4, 5], keep := [(0, [(0, .v), (1, .v), (5, .v)])] } := by kernel_rfl
@[go_sem] theorem an79 : ann 79 = { vs := [4, 5] } := by kernel_rfl
@[go_sem] theorem an80 : ann 80 = { vs := [4, 5] } := by kernel_rfl
@[go_sem] theorem an81 : ann 81 = { vs := [4, 5, 6] } := by kernel_rfl
@[go_sem] theorem an82 : ann 82 = { vs := [4, 5, 6, 7, 8] } := by kernel_rfl
@[go_sem] theorem an83 : ann 83 = { vs := [6, 7, 8, 9, 10, 11] } := by kernel_rfl
@[go_sem] theorem an84 : ann 84 = { vs := [6, 7, 8, 9, 10] } := by kernel_rfl
@[go_sem] theorem an85 : ann 85 = { vs := [8, 9, 10, 11, 12, 13, 14], keep := [(0, [(0, .v), (2, .v), (3, .v), (11, .v), (13, .o 1 true)]), (2, [(0, .v), (2, .v), (3, .v), (11, .v), (13, .v), (14, .v)])] } := by kernel_rfl
@[go_sem] theorem an86 : ann 86 = { vs := [8, 9, 10, 11, 12, 13, 14] } := by kernel_rfl
@[go_sem] theorem an87 : ann 87 = { vs := [6, 7, 8, 9, 10, 11, 12, 13, 14, 15], keep := [(1, [(0, .v), (1, .v), (2, .v), (11, .o 3 true), (12, .o 3 true), (13, .v)]), (4, [(11, .o 3 true), (12, .v), (15, .v)])] } := by kernel_rfl
@[go_sem] theorem an88 : ann 88 = { vs := [6, 7, 8, 9, 10, 11, 12, 13, 15, 62, 63, 64], keep := [(1, [(1, .v), (2, .v), (13, .o 3 true), (62, .v), (63, .v), (64, .v)])] } := by kernel_rfl
@[go_sem] theorem an89 : ann 89 = { vs := [4, 5, 6, 7], keep := [(0, [(0, .v), (1, .v), (5, .o 1 true), (6, .v), (7, .v)])] } := by kernel_rfl
@[go_sem] theorem an90 : ann 90 = { vs := [2] } := by kernel_rfl
@[go_sem] theorem an91 : ann 91 = { vs := [4] } := by kernel_rfl
@[go_sem] theorem an92 : ann 92 = { vs := [3] } := by kernel_rfl
@[go_sem] theorem an93 : ann 93 = { vs := [8, 9, 10, 11], keep := [(0, [(0, .v), (1, .v), (2, .v), (3, .v), (9, .v), (10, .v)])] } := by kernel_rfl
@[go_sem] theorem an94 : ann 94 = { vs := [6] } := by kernel_rfl
@[go_sem] theorem an95 : ann 95 = { vs := [2] } := by kernel_rfl
@[go_sem] theorem an96 : ann 96 = { vs := [4] } := by kernel_rfl
@[go_sem] theorem an97 : ann 97 = { vs := [2, 3] } := by kernel_rfl
@[go_sem] theorem an98 : ann 98 = { vs := [2] } := by kernel_rfl
@[go_sem] theorem an99 : ann 99 = { vs := [2] } := by kernel_rfl
@[go_sem] theorem an100 : ann 100 = { vs := [4, 5, 6], keep := [(0, [(0, .v), (5, .v), (6, .v)])] } := by kernel_rfl
@[go_sem] theorem an101 : ann 101 = { vs := [2] } := by kernel_rfl
@[go_sem] theorem an102 : ann 102 = { vs := [4] } := by kernel_rfl
@[go_sem] theorem an103 : ann 103 = { vs := [2, 3] } := by kernel_rfl
@[go_sem] theorem an104 : ann 104 = { vs := [4] } := by kernel_rfl
@[go_sem] theorem an105 : ann 105 = { vs := [6, 7], modes := [.m] } := by kernel_rfl
@[go_sem] theorem an106 : ann 106 = { vs := [2] } := by kernel_rfl
@[go_sem] theorem an107 : ann 107 = { vs := [6, 7, 8, 9, 10, 11], keep := [(0, [(0, .v), (1, .v), (2, .v), (8, .v), (9, .v), (10, .v)])] } := by kernel_rfl
@[go_sem] theorem an108 : ann 108 = { vs := [2, 4] } := by kernel_rfl
@[go_sem] theorem an109 : ann 109 = { vs := [4] } := by kernel_rfl
@[go_sem] theorem an110 : ann 110 = { vs := [4, 5], keep := [(0, [(0, .v), (1, .v), (5, .v)])] } := by kernel_rfl
@[go_sem] theorem an111 : ann 111 = { vs := [4, 5, 6, 7, 8, 9, 10, 11], keep := [(0, [(0, .v), (1, .v), (5, .v), (6, .v), (7, .v), (8, .v), (9, .v), (10, .v)]), (2, [(0, .v), (1, .v), (5, .v), (6, .v), (7, .v), (9, .v), (11, .v)])] } := by kernel_rfl
@[go_sem] theorem an112 : ann 112 = { vs := [4, 5] } := by kernel_rfl
@[go_sem] theorem an113 : ann 113 = { vs := [3, 4, 5, 6, 7], keep := [(0, [(0, .v), (3, .v), (5, .o 3 true), (6, .v), (7, .v)])] } := by kernel_rfl
@[go_sem] theorem an114 : ann 114 = { vs := [4, 5] } := by kernel_rfl
@[go_sem] theorem an115 : ann 115 = { vs := [6, 7, 8, 9], modes := [.m] } := by kernel_rfl
@[go_sem] theorem an116 : ann 116 = { vs := [6] } := by kernel_rfl
@[go_sem] theorem an117 : ann 117 = { vs := [4] } := by kernel_rfl
@[go_sem] theorem an118 : ann 118 = { vs := [4] } := by kernel_rfl
@[go_sem] theorem an119 : ann 119 = { vs := [2, 3, 4] } := by kernel_rfl
@[go_sem] theorem an120 : ann 120 = { vs := [2, 3], keep := [(0, [(0, .v), (3, .v)])] } := by kernel_rfl
@[go_sem] theorem an121 : ann 121 = { vs := [4, 5, 7, 8], keep := [(0, [(0, .v), (1, .v), (7, .v), (8, .v)])] } := by kernel_rfl
@[go_sem] theorem an122 : ann 122 = { vs := [4, 5, 6, 7, 9], keep := [(0, [(0, .v), (1, .v), (6, .v), (7, .v)])] } := by kernel_rfl
@[go_sem] theorem an123 : ann 123 = { vs := [4, 5, 6], keep := [(0, [(0, .v), (1, .v), (5, .v)])] } := by kernel_rfl
@[go_sem] theorem an124 : ann 124 = { vs := [4] } := by kernel_rfl
@[go_sem] theorem an125 : ann 125 = { vs := [4, 5, 7, 8], keep := [(0, [(0, .v), (1, .v), (7, .v), (8, .v)])] } := by kernel_rfl
@[go_sem] theorem an126 : ann 126 = { vs := [4] } := by kernel_rfl
@[go_sem] theorem an127 : ann 127 = { vs := [4] } := by kernel_rfl
@[go_sem] theorem an128 : ann 128 = { vs := [2, 3, 4, 5, 6, 7, 8], keep := [(0, [(0, .v), (4, .v), (5, .v)]), (2, [(4, .v), (6, .v), (7, .v), (8, .v)])] } := by kernel_rfl
@[go_sem] theorem an131 : ann 131 = { vs := [4, 5, 6, 7, 8, 9, 10, 11, 42], keep := [(3, [(7, .v), (8, .v), (9, .v)])] } := by kernel_rfl
@[go_sem] theorem an132 : ann 132 = { vs := [10, 11, 12, 13, 14, 15, 16, 17, 18, 19, 20], keep := [(0, [(0, .v), (1, .v), (2, .v), (3, .v), (4, .v), (10, .v), (11, .v)])] } := by kernel_rfl
@[go_sem] theorem an133 : ann 133 = { vs := [2] } := by kernel_rfl
@[go_sem] theorem an134 : ann 134 = { vs := [2] } := by kernel_rfl
@[go_sem] theorem an135 : ann 135 = { vs := [2] } := by kernel_rfl
@[go_sem] theorem an136 : ann 136 = { vs := [2, 4], keep := [(0, [(2, .v), (4, .v)])] } := by kernel_rfl
@[go_sem] theorem an137 : ann 137 = { vs := [2, 3] } := by kernel_rfl
@[go_sem] theorem an139 : ann 139 = { vs := [4, 5, 6, 7, 8, 9, 10, 11, 12, 13], keep := [(1, [(0, .v), (1, .v), (5, .v), (6, .v), (7, .v), (8, .v), (9, .v), (10, .v)])] } := by kernel_rfl
@[go_sem] theorem an140 : ann 140 = { vs := [4] } := by kernel_rfl
@[go_sem] theorem an143 : ann 143 = { vs := [4, 5, 6, 7, 8, 9] } := by kernel_rfl
@[go_sem] theorem an145 : ann 145 = { vs := [4, 5] } := by kernel_rfl
@[go_sem] theorem an146 : ann 146 = { vs := [2] } := by kernel_rfl
@[go_sem] theorem an147 : ann 147 = { vs := [2] } := by kernel_rfl
@[go_sem] theorem an148 : ann 148 = { vs := [8, 9], keep := [(0, [(0, .v), (1, .v), (2, .v), (3, .v), (8, .v)]), (2, [(0, .v), (1, .v), (2, .v), (3, .v), (8, .v), (9, .v)])] } := by kernel_rfl
@[go_sem] theorem an149 : ann 149 = { vs := [8, 9, 10, 11, 12], keep := [(0, [(0, .v), (3, .v), (8, .v), (9, .v), (10, .v), (11, .v)]), (2, [(0, .v), (3, .v), (8, .v), (9, .v), (12, .v)])] } := by kernel_rfl
@[go_sem] theorem an150 : ann 150 = { vs := [8, 9, 10, 11, 12], keep := [(0, [(0, .v), (1, .v), (8, .v), (9, .v), (10, .v), (11, .v)])] } := by kernel_rfl
@[go_sem] theorem an151 : ann 151 = { vs := [8, 9, 10, 11, 12, 13, 14, 55] } := by kernel_rfl
@[go_sem] theorem an152 : ann 152 = { vs := [8, 9], keep := [(0, [(0, .v), (8, .v), (9, .v)])] } := by kernel_rfl
@[go_sem] theorem an153 : ann 153 = { vs := [8, 9, 10, 11, 12], keep := [(0, [(0, .v), (1, .v), (2, .v), (3, .v), (9, .v), (10, .v)]), (2, [(0, .v), (1, .v), (2, .v), (3, .v), (9, .v), (10, .v)]), (4, [(0, .v), (1, .v), (2, .v), (3, .v), (9, .v), (10, .v), (11, .v)]), (6, [(0, .v), (1, .v), (2, .v), (3, .v), (9, .v), (10, .v), (12, .v)])] } := by kernel_rfl
@[go_sem] theorem an154 : ann 154 = { vs := [10, 11, 12], keep := [(0, [(0, .v), (1, .v), (4, .v), (11, .v), (12, .v)]), (2, [(0, .v), (1, .v), (4, .v), (11, .v), (12, .v)]), (4, [(0, .v), (1, .v), (4, .v), (11, .v), (12, .v)])] } := by kernel_rfl
@[go_sem] theorem an155 : ann 155 = { vs := [10, 11, 12, 13], keep := [(0, [(0, .v), (1, .v), (4, .v), (12, .v), (13, .v)]), (2, [(0, .v), (1, .v), (4, .v), (12, .v), (13, .v)]), (4, [(0, .v), (1, .v), (4, .v), (12, .v), (13, .v)]), (6, [(0, .v), (1, .v), (4, .v), (12, .v), (13, .v)]), (8, [(0, .v), (1, .v), (4, .v), (12, .v), (13, .v)])] } := by kernel_rfl
@[go_sem] theorem an156 : ann 156 = { vs := [2] } := by kernel_rfl
@[go_sem] theorem an157 : ann 157 = { vs := [2] } := by kernel_rfl
@[go_sem] theorem an158 : ann 158 = { vs := [2, 3, 4, 5, 6, 7, 8, 9, 10, 11, 12] } := by kernel_rfl
@[go_sem] theorem an159 : ann 159 = { vs := [4] } := by kernel_rfl
@[go_sem] theorem an161 : ann 161 = { vs := [2] } := by kernel_rfl
@[go_sem] theorem an162 : ann 162 = { vs := [4, 5, 6, 7, 8, 9, 10], keep := [(0, [(0, .v), (1, .v), (5, .v), (6, .v), (7, .v), (8, .v), (9, .v)]), (2, [(0, .v), (1, .v), (5, .v), (6, .v), (7, .v), (8, .v), (10, .v)])] } := by kernel_rfl
@[go_sem] theorem an163 : ann 163 = { vs := [2, 3], keep := [(0, [(0, .v), (2, .v), (3, .v)])] } := by kernel_rfl
@[go_sem] theorem an164 : ann 164 = { vs := [4, 5, 6] } := by kernel_rfl
@[go_sem] theorem an165 : ann 165 = { vs := [4, 5, 6, 7, 8, 9, 10, 11, 12, 13] } := by kernel_rfl
@[go_sem] theorem an167 : ann 167 = { vs := [4] } := by kernel_rfl
@[go_sem] theorem an168 : ann 168 = { vs := [10, 11], keep := [(0, [(0, .v), (2, .v), (3, .v), (4, .v), (10, .v)])] } := by kernel_rfl
@[go_sem] theorem an169 : ann 169 = { vs := [2] } := by kernel_rfl
@[go_sem] theorem an170 : ann 170 = { vs := [2] } := by kernel_rfl
@[go_sem] theorem an171 : ann 171 = { vs := [8] } := by kernel_rfl
@[go_sem] theorem an172 : ann 172 = { vs := [12] } := by kernel_rfl
@[go_sem] theorem an174 : ann 174 = { vs := [2, 3, 4, 5, 6, 7, 8], keep := [(0, [(0, .v), (4, .v), (5, .v)]), (2, [(4, .v), (6, .v), (7, .v), (8, .v)])] } := by kernel_rfl
@[go_sem] theorem an177 : ann 177 = { vs := [10, 11] } := by kernel_rfl
@[go_sem] theorem an0 : ann 0 = {} := by kernel_rfl
@[go_sem] theorem an1 : ann 1 = {} := by kernel_rfl
@[go_sem] theorem an2 : ann 2 = {} := by kernel_rfl
@[go_sem] theorem an129 : ann 129 = {} := by kernel_rfl
@[go_sem] theorem an130 : ann 130 = {} := by kernel_rfl
@[go_sem] theorem an138 : ann 138 = {} := by kernel_rfl
@[go_sem] theorem an141 : ann 141 = {} := by kernel_rfl
@[go_sem] theorem an142 : ann 142 = {} := by kernel_rfl
@[go_sem] theorem an144 : ann 144 = {} := by kernel_rfl
@[go_sem] theorem an160 : ann 160 = {} := by kernel_rfl
@[go_sem] theorem an166 : ann 166 = {} := by kernel_rfl
@[go_sem] theorem an173 : ann 173 = {} := by kernel_rfl
@[go_sem] theorem an175 : ann 175 = {} := by kernel_rfl
@[go_sem] theorem an176 : ann 176 = {} := by kernel_rfl
@[go_sem] theorem an178 : ann 178 = {} := by kernel_rfl
@[go_sem] theorem an179 : ann 179 = {} := by kernel_rfl
@[go_sem] theorem an180 : ann 180 = {} := by kernel_rfl
@[go_sem] theorem an181 : ann 181 = {} := by kernel_rfl
@[go_sem] theorem an182 : ann 182 = {} := by kernel_rfl
@[go_sem] theorem an183 : ann 183 = {} := by kernel_rfl
@[go_sem] theorem an184 : ann 184 = {} := by kernel_rfl
@[go_sem] theorem an185 : ann 185 = {} := by kernel_rfl
@[go_sem] theorem an186 : ann 186 = {} := by kernel_rfl
@[go_sem] theorem an187 : ann 187 = {} := by kernel_rfl
@[go_sem] theorem an188 : ann 188 = {} := by kernel_rfl
@[go_sem] theorem an189 : ann 189 = {} := by kernel_rfl
@[go_sem] theorem an190 : ann 190 = {} := by kernel_rfl
@[go_sem] theorem an191 : ann 191 = {} := by kernel_rfl
@[go_sem] theorem an192 : ann 192 = {} := by kernel_rfl
@[go_sem] theorem an193 : ann 193 = {} := by kernel_rfl
@[go_sem] theorem an194 : ann 194 = {} := by kernel_rfl
@[go_sem] theorem an195 : ann 195 = {} := by kernel_rfl
@[go_sem] theorem an196 : ann 196 = {} := by kernel_rfl
@[go_sem] theorem an197 : ann 197 = {} := by kernel_rfl
@[go_sem] theorem an198 : ann 198 = {} := by kernel_rfl
@[go_sem] theorem an199 : ann 199 = {} := by kernel_rfl
@[go_sem] theorem re2 : Go.Proofs.Tryd.f2.results.toList = [] := rfl
@[go_sem] theorem re3 : Go.Proofs.Tryd.f3.results.toList = [.tmp 2] := rfl
@[go_sem] theorem re4 : Go.Proofs.Tryd.f4.results.toList = [.tmp 2] := rfl
@[go_sem] theorem re5 : Go.Proofs.Tryd.f5.results.toList = [.tmp 2] := rfl
@[go_sem] theorem re6 : Go.Proofs.Tryd.f6.results.toList = [.tmp 4] := rfl
@[go_sem] theorem re7 : Go.Proofs.Tryd.f7.results.toList = [.tmp 8] := rfl
@[go_sem] theorem re8 : Go.Proofs.Tryd.f8.results.toList = [.tmp 2] := rfl
@[go_sem] theorem re9 : Go.Proofs.Tryd.f9.results.toList = [.tmp 4] := rfl
@[go_sem] theorem re10 : Go.Proofs.Tryd.f10.results.toList = [.tmp 4] := rfl
@[go_sem] theorem re11 : Go.Proofs.Tryd.f11.results.toList = [.tmp 4] := rfl
@[go_sem] theorem re12 : Go.Proofs.Tryd.f12.results.toList = [.tmp 6] := rfl
@[go_sem] theorem re13 : Go.Proofs.Tryd.f13.results.toList = [.tmp 8] := rfl
@[go_sem] theorem re14 : Go.Proofs.Tryd.f14.results.toList = [.tmp 6] := rfl
@[go_sem] theorem re15 : Go.Proofs.Tryd.f15.results.toList = [.tmp 2] := rfl
@[go_sem] theorem re16 : Go.Proofs.Tryd.f16.results.toList = [.tmp 2] := rfl
@[go_sem] theorem re17 : Go.Proofs.Tryd.f17.results.toList = [.tmp 2, .tmp 3] := rfl
@[go_sem] theorem re18 : Go.Proofs.Tryd.f18.results.toList = [.tmp 2, .tmp 3] := rfl
@[go_sem] theorem re19 : Go.Proofs.Tryd.f19.results.toList = [.tmp 4] := rfl
@[go_sem] theorem re20 : Go.Proofs.Tryd.f20.results.toList = [.tmp 2] := rfl
@[go_sem] theorem re21 : Go.Proofs.Tryd.f21.results.toList = [.tmp 2] := rfl
@[go_sem] theorem re22 : Go.Proofs.Tryd.f22.results.toList = [.tmp 2] := rfl
@[go_sem] theorem re23 : Go.Proofs.Tryd.f23.results.toList = [.tmp 4] := rfl
@[go_sem] theorem re24 : Go.Proofs.Tryd.f24.results.toList = [.tmp 4, .tmp 5] := rfl
@[go_sem] theorem re25 : Go.Proofs.Tryd.f25.results.toList = [.tmp 4, .tmp 5] := rfl
@[go_sem] theorem re26 : Go.Proofs.Tryd.f26.results.toList = [.tmp 8, .tmp 9] := rfl
@[go_sem] theorem re27 : Go.Proofs.Tryd.f27.results.toList = [.tmp 8, .tmp 9] := rfl
@[go_sem] theorem re28 : Go.Proofs.Tryd.f28.results.toList = [.tmp 2, .tmp 3] := rfl
@[go_sem] theorem re29 : Go.Proofs.Tryd.f29.results.toList = [.tmp 2, .tmp 3] := rfl
@[go_sem] theorem re30 : Go.Proofs.Tryd.f30.results.toList = [.tmp 4] := rfl
@[go_sem] theorem re31 : Go.Proofs.Tryd.f31.results.toList = [.tmp 4] := rfl
@[go_sem] theorem re32 : Go.Proofs.Tryd.f32.results.toList = [.tmp 4] := rfl
@[go_sem] theorem re33 : Go.Proofs.Tryd.f33.results.toList = [.tmp 4] := rfl
@[go_sem] theorem re34 : Go.Proofs.Tryd.f34.results.toList = [.tmp 4, .tmp 5] := rfl
@[go_sem] theorem re35 : Go.Proofs.Tryd.f35.results.toList = [.tmp 4, .tmp 5] := rfl
@[go_sem] theorem re36 : Go.Proofs.Tryd.f36.results.toList = [.tmp 4] := rfl
@[go_sem] theorem re37 : Go.Proofs.Tryd.f37.results.toList = [.tmp 4, .tmp 5] := rfl
@[go_sem] theorem re38 : Go.Proofs.Tryd.f38.results.toList = [.tmp 4, .tmp 5] := rfl
@[go_sem] theorem re39 : Go.Proofs.Tryd.f39.results.toList = [.tmp 4] := rfl
@[go_sem] theorem re40 : Go.Proofs.Tryd.f40.results.toList = [.tmp 4] := rfl
@[go_sem] theorem re41 : Go.Proofs.Tryd.f41.results.toList = [.tmp 4] := rfl
@[go_sem] theorem re42 : Go.Proofs.Tryd.f42.results.toList = [.tmp 4, .tmp 5] := rfl
@[go_sem] theorem re43 : Go.Proofs.Tryd.f43.results.toList = [.tmp 4, .tmp 5] := rfl
@[go_sem] theorem re44 : Go.Proofs.Tryd.f44.results.toList = [.tmp 6, .tmp 7] := rfl
@[go_sem] theorem re45 : Go.Proofs.Tryd.f45.results.toList = [.tmp 6, .tmp 7] := rfl
@[go_sem] theorem re46 : Go.Proofs.Tryd.f46.results.toList = [.tmp 8, .tmp 9] := rfl
@[go_sem] theorem re47 : Go.Proofs.Tryd.f47.results.toList = [.tmp 8, .tmp 9] := rfl
@[go_sem] theorem re48 : Go.Proofs.Tryd.f48.results.toList = [.tmp 6, .tmp 7] := rfl
@[go_sem] theorem re49 : Go.Proofs.Tryd.f49.results.toList = [.tmp 6, .tmp 7] := rfl
@[go_sem] theorem re50 : Go.Proofs.Tryd.f50.results.toList = [.tmp 2] := rfl
@[go_sem] theorem re51 : Go.Proofs.Tryd.f51.results.toList = [.tmp 4] := rfl
@[go_sem] theorem re52 : Go.Proofs.Tryd.f52.results.toList = [.tmp 4] := rfl
@[go_sem] theorem re53 : Go.Proofs.Tryd.f53.results.toList = [.tmp 2] := rfl
@[go_sem] theorem re54 : Go.Proofs.Tryd.f54.results.toList = [.tmp 2] := rfl
@[go_sem] theorem re55 : Go.Proofs.Tryd.f55.results.toList = [.tmp 2] := rfl
@[go_sem] theorem re56 : Go.Proofs.Tryd.f56.results.toList = [.tmp 2] := rfl
@[go_sem] theorem re57 : Go.Proofs.Tryd.f57.results.toList = [.tmp 4] := rfl
@[go_sem] theorem re58 : Go.Proofs.Tryd.f58.results.toList = [.tmp 4] := rfl
@[go_sem] theorem re59 : Go.Proofs.Tryd.f59.results.toList = [.cell 2 64] := rfl
@[go_sem] theorem re60 : Go.Proofs.Tryd.f60.results.toList = [.tmp 4] := rfl
@[go_sem] theorem re61 : Go.Proofs.Tryd.f61.results.toList = [.tmp 3] := rfl
@[go_sem] theorem re62 : Go.Proofs.Tryd.f62.results.toList = [.tmp 4] := rfl
@[go_sem] theorem re63 : Go.Proofs.Tryd.f63.results.toList = [.tmp 4] := rfl
@[go_sem] theorem re64 : Go.Proofs.Tryd.f64.results.toList = [.tmp 4] := rfl
@[go_sem] theorem re65 : Go.Proofs.Tryd.f65.results.toList = [.tmp 2] := rfl
@[go_sem] theorem re66 : Go.Proofs.Tryd.f66.results.toList = [.tmp 4] := rfl
@[go_sem] theorem re67 : Go.Proofs.Tryd.f67.results.toList = [.tmp 4] := rfl
@[go_sem] theorem re68 : Go.Proofs.Tryd.f68.results.toList = [.tmp 4, .tmp 5] := rfl
@[go_sem] theorem re69 : Go.Proofs.Tryd.f69.results.toList = [.tmp 4] := rfl
@[go_sem] theorem re70 : Go.Proofs.Tryd.f70.results.toList = [.tmp 4, .tmp 5] := rfl
@[go_sem] theorem re71 : Go.Proofs.Tryd.f71.results.toList = [.tmp 2] := rfl
@[go_sem] theorem re72 : Go.Proofs.Tryd.f72.results.toList = [.tmp 2] := rfl
@[go_sem] theorem re73 : Go.Proofs.Tryd.f73.results.toList = [.tmp 2] := rfl
@[go_sem] theorem re74 : Go.Proofs.Tryd.f74.results.toList = [.tmp 4, .tmp 5] := rfl
@[go_sem] theorem re75 : Go.Proofs.Tryd.f75.results.toList = [.tmp 4, .tmp 5] := rfl
@[go_sem] theorem re76 : Go.Proofs.Tryd.f76.results.toList = [.tmp 6, .tmp 7] := rfl
@[go_sem] theorem re77 : Go.Proofs.Tryd.f77.results.toList = [.tmp 4] := rfl
@[go_sem] theorem re78 : Go.Proofs.Tryd.f78.results.toList = [.tmp 4] := rfl
@[go_sem] theorem re79 : Go.Proofs.Tryd.f79.results.toList = [.tmp 4, .tmp 5] := rfl
@[go_sem] theorem re80 : Go.Proofs.Tryd.f80.results.toList = [.tmp 4] := rfl
@[go_sem] theorem re81 : Go.Proofs.Tryd.f81.results.toList = [.tmp 4, .tmp 5] := rfl
@[go_sem] theorem re82 : Go.Proofs.Tryd.f82.results.toList = [.tmp 4, .tmp 5] := rfl
@[go_sem] theorem re83 : Go.Proofs.Tryd.f83.results.toList = [.tmp 6, .tmp 7] := rfl
@[go_sem] theorem re84 : Go.Proofs.Tryd.f84.results.toList = [.tmp 6, .tmp 7] := rfl
@[go_sem] theorem re85 : Go.Proofs.Tryd.f85.results.toList = [.tmp 8, .tmp 9] := rfl
@[go_sem] theorem re86 : Go.Proofs.Tryd.f86.results.toList = [.tmp 8, .tmp 9] := rfl
@[go_sem] theorem re87 : Go.Proofs.Tryd.f87.results.toList = [.tmp 6, .tmp 7] := rfl
@[go_sem] theorem re88 : Go.Proofs.Tryd.f88.results.toList = [.tmp 6, .tmp 7] := rfl
@[go_sem] theorem re89 : Go.Proofs.Tryd.f89.results.toList = [.tmp 4] := rfl
@[go_sem] theorem re90 : Go.Proofs.Tryd.f90.results.toList = [.tmp 2] := rfl
@[go_sem] theorem re91 : Go.Proofs.Tryd.f91.results.toList = [.tmp 4] := rfl
@[go_sem] theorem re92 : Go.Proofs.Tryd.f92.results.toList = [.tmp 3] := rfl
@[go_sem] theorem re93 : Go.Proofs.Tryd.f93.results.toList = [.tmp 8] := rfl
@[go_sem] theorem re94 : Go.Proofs.Tryd.f94.results.toList = [.tmp 6] := rfl
@[go_sem] theorem re95 : Go.Proofs.Tryd.f95.results.toList = [.tmp 2] := rfl
@[go_sem] theorem re96 : Go.Proofs.Tryd.f96.results.toList = [.tmp 4] := rfl
@[go_sem] theorem re97 : Go.Proofs.Tryd.f97.results.toList = [.tmp 3] := rfl
@[go_sem] theorem re98 : Go.Proofs.Tryd.f98.results.toList = [.tmp 2] := rfl
@[go_sem] theorem re99 : Go.Proofs.Tryd.f99.results.toList = [.tmp 2] := rfl
@[go_sem] theorem re100 : Go.Proofs.Tryd.f100.results.toList = [.tmp 4] := rfl
@[go_sem] theorem re101 : Go.Proofs.Tryd.f101.results.toList = [.tmp 2] := rfl
@[go_sem] theorem re102 : Go.Proofs.Tryd.f102.results.toList = [.tmp 4] := rfl
@[go_sem] theorem re103 : Go.Proofs.Tryd.f103.results.toList = [.tmp 3] := rfl
@[go_sem] theorem re104 : Go.Proofs.Tryd.f104.results.toList = [.tmp 4] := rfl
@[go_sem] theorem re105 : Go.Proofs.Tryd.f105.results.toList = [.tmp 6] := rfl
@[go_sem] theorem re106 : Go.Proofs.Tryd.f106.results.toList = [.tmp 2] := rfl
@[go_sem] theorem re107 : Go.Proofs.Tryd.f107.results.toList = [.tmp 6, .tmp 7] := rfl
@[go_sem] theorem re108 : Go.Proofs.Tryd.f108.results.toList = [.tmp 4] := rfl
@[go_sem] theorem re109 : Go.Proofs.Tryd.f109.results.toList = [.tmp 4] := rfl
@[go_sem] theorem re110 : Go.Proofs.Tryd.f110.results.toList = [.tmp 4] := rfl
@[go_sem] theorem re111 : Go.Proofs.Tryd.f111.results.toList = [.tmp 4] := rfl
@[go_sem] theorem re112 : Go.Proofs.Tryd.f112.results.toList = [.tmp 4] := rfl
@[go_sem] theorem re113 : Go.Proofs.Tryd.f113.results.toList = [.tmp 4] := rfl
@[go_sem] theorem re114 : Go.Proofs.Tryd.f114.results.toList = [.tmp 4] := rfl
@[go_sem] theorem re115 : Go.Proofs.Tryd.f115.results.toList = [.tmp 6] := rfl
@[go_sem] theorem re116 : Go.Proofs.Tryd.f116.results.toList = [.tmp 6] := rfl
@[go_sem] theorem re117 : Go.Proofs.Tryd.f117.results.toList = [.tmp 4] := rfl
@[go_sem] theorem re118 : Go.Proofs.Tryd.f118.results.toList = [] := rfl
@[go_sem] theorem re119 : Go.Proofs.Tryd.f119.results.toList = [.tmp 4] := rfl
@[go_sem] theorem re120 : Go.Proofs.Tryd.f120.results.toList = [.tmp 2] := rfl
@[go_sem] theorem re121 : Go.Proofs.Tryd.f121.results.toList = [.tmp 4] := rfl
@[go_sem] theorem re122 : Go.Proofs.Tryd.f122.results.toList = [.tmp 4] := rfl
@[go_sem] theorem re123 : Go.Proofs.Tryd.f123.results.toList = [.tmp 4] := rfl
@[go_sem] theorem re124 : Go.Proofs.Tryd.f124.results.toList = [.tmp 4] := rfl
@[go_sem] theorem re125 : Go.Proofs.Tryd.f125.results.toList = [.tmp 4] := rfl
@[go_sem] theorem re126 : Go.Proofs.Tryd.f126.results.toList = [.tmp 4] := rfl
@[go_sem] theorem re127 : Go.Proofs.Tryd.f127.results.toList = [.tmp 4] := rfl
@[go_sem] theorem re128 : Go.Proofs.Tryd.f128.results.toList = [.tmp 2, .tmp 3] := rfl
@[go_sem] theorem re130 : Go.Proofs.Tryd.f130.results.toList = [] := rfl
@[go_sem] theorem re131 : Go.Proofs.Tryd.f131.results.toList = [.tmp 4] := rfl
@[go_sem] theorem re132 : Go.Proofs.Tryd.f132.results.toList = [] := rfl
@[go_sem] theorem re133 : Go.Proofs.Tryd.f133.results.toList = [.tmp 2] := rfl
@[go_sem] theorem re134 : Go.Proofs.Tryd.f134.results.toList = [.tmp 2] := rfl
@[go_sem] theorem re135 : Go.Proofs.Tryd.f135.results.toList = [.tmp 2] := rfl
@[go_sem] theorem re136 : Go.Proofs.Tryd.f136.results.toList = [.tmp 2] := rfl
@[go_sem] theorem re137 : Go.Proofs.Tryd.f137.results.toList = [.tmp 2, .tmp 3] := rfl
@[go_sem] theorem re139 : Go.Proofs.Tryd.f139.results.toList = [.tmp 4] := rfl
@[go_sem] theorem re140 : Go.Proofs.Tryd.f140.results.toList = [.tmp 4] := rfl
@[go_sem] theorem re142 : Go.Proofs.Tryd.f142.results.toList = [] := rfl
@[go_sem] theorem re143 : Go.Proofs.Tryd.f143.results.toList = [.tmp 4, .tmp 5] := rfl
@[go_sem] theorem re144 : Go.Proofs.Tryd.f144.results.toList = [] := rfl
@[go_sem] theorem re145 : Go.Proofs.Tryd.f145.results.toList = [.tmp 4, .tmp 5] := rfl
@[go_sem] theorem re146 : Go.Proofs.Tryd.f146.results.toList = [.tmp 2] := rfl
@[go_sem] theorem re147 : Go.Proofs.Tryd.f147.results.toList = [.tmp 2] := rfl
@[go_sem] theorem re148 : Go.Proofs.Tryd.f148.results.toList = [] := rfl
@[go_sem] theorem re149 : Go.Proofs.Tryd.f149.results.toList = [] := rfl
@[go_sem] theorem re150 : Go.Proofs.Tryd.f150.results.toList = [] := rfl
@[go_sem] theorem re151 : Go.Proofs.Tryd.f151.results.toList = [.tmp 8, .tmp 9] := rfl
@[go_sem] theorem re152 : Go.Proofs.Tryd.f152.results.toList = [] := rfl
@[go_sem] theorem re153 : Go.Proofs.Tryd.f153.results.toList = [.tmp 8] := rfl
@[go_sem] theorem re154 : Go.Proofs.Tryd.f154.results.toList = [.tmp 10] := rfl
@[go_sem] theorem re155 : Go.Proofs.Tryd.f155.results.toList = [.tmp 10, .tmp 11] := rfl
@[go_sem] theorem re156 : Go.Proofs.Tryd.f156.results.toList = [.tmp 2] := rfl
@[go_sem] theorem re157 : Go.Proofs.Tryd.f157.results.toList = [.tmp 2] := rfl
@[go_sem] theorem re158 : Go.Proofs.Tryd.f158.results.toList = [.tmp 2, .tmp 3] := rfl
@[go_sem] theorem re159 : Go.Proofs.Tryd.f159.results.toList = [.tmp 4] := rfl
@[go_sem] theorem re161 : Go.Proofs.Tryd.f161.results.toList = [.tmp 2] := rfl
@[go_sem] theorem re162 : Go.Proofs.Tryd.f162.results.toList = [.tmp 4] := rfl
@[go_sem] theorem re163 : Go.Proofs.Tryd.f163.results.toList = [] := rfl
@[go_sem] theorem re164 : Go.Proofs.Tryd.f164.results.toList = [.tmp 4, .tmp 5] := rfl
@[go_sem] theorem re165 : Go.Proofs.Tryd.f165.results.toList = [.tmp 4, .tmp 5] := rfl
@[go_sem] theorem re166 : Go.Proofs.Tryd.f166.results.toList = [] := rfl
@[go_sem] theorem re167 : Go.Proofs.Tryd.f167.results.toList = [] := rfl
@[go_sem] theorem re168 : Go.Proofs.Tryd.f168.results.toList = [] := rfl
@[go_sem] theorem re169 : Go.Proofs.Tryd.f169.results.toList = [.tmp 2] := rfl
@[go_sem] theorem re170 : Go.Proofs.Tryd.f170.results.toList = [.tmp 2] := rfl
@[go_sem] theorem re171 : Go.Proofs.Tryd.f171.results.toList = [.tmp 8] := rfl
@[go_sem] theorem re172 : Go.Proofs.Tryd.f172.results.toList = [.tmp 12] := rfl
@[go_sem] theorem re174 : Go.Proofs.Tryd.f174.results.toList = [.tmp 2, .tmp 3] := rfl
@[go_sem] theorem re177 : Go.Proofs.Tryd.f177.results.toList = [.tmp 10, .tmp 11] := rfl
@[go_sem] theorem re199 : Go.Proofs.Tryd.f199.results.toList = [] := rfl
end Go.Proofs.YtdliopdbfjjcoaaDoor.Ev
