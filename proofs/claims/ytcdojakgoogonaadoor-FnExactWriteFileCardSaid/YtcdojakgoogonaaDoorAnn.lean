/- Annotations of the functions, and facts of types, by gen.py. No condition. -/
import Derived.Test.YtcdojakgoogonaaDoorEvStep
import Derived.Test.YtcdojakgoogonaaDoorEvCore
import Derived.Test.YtcdojakgoogonaaDoorProg
namespace Go.Proofs.YtcdojakgoogonaaDoor.Ev
open Go
def annL : List (Nat × Ann) := [
  (3, { vs := [4, 5, 6, 7, 8, 9, 10, 11, 12, 13, 14, 15] }),
  (4, { vs := [4, 5, 6, 7, 8, 9, 10, 11, 12, 13, 14, 15] }),
  (5, { vs := [8, 9, 10, 11, 12, 13, 14, 15, 16, 17, 18, 19] }),
  (6, { vs := [6, 7, 8, 9, 10, 11, 12, 13, 14, 15, 16, 17] }),
  (7, { vs := [4, 5], keep := [(0, [(0, .v), (1, .v), (5, .v)])] }),
  (8, { vs := [4, 5, 6, 7, 8] }),
  (9, { vs := [2, 3, 4], keep := [(0, [(0, .v), (3, .v), (4, .v)])] }),
  (10, { vs := [4, 5, 6, 7, 8] }),
  (11, { vs := [4, 5], keep := [(0, [(0, .v), (1, .v), (5, .v)])] }),
  (12, { vs := [4, 5], keep := [(0, [(0, .v), (1, .v), (5, .v)])], modes := [.l] }),
  (13, { vs := [4, 5], keep := [(0, [(0, .v), (1, .v), (5, .v)])] }),
  (14, { vs := [4, 5, 6, 7, 8] }),
  (15, { vs := [4, 5, 6, 7, 8] }),
  (16, { vs := [8, 9, 10, 11, 12] }),
  (17, { vs := [8, 9, 10, 11, 12] }),
  (18, { vs := [6, 7, 8, 9, 10] }),
  (19, { vs := [6, 7, 8, 9, 10] }),
  (20, { vs := [2, 4] }),
  (21, { vs := [4] }),
  (22, { vs := [4, 5, 6, 7], keep := [(0, [(0, .v), (1, .v), (6, .v), (7, .v)]), (1000009, [])] }),
  (23, { vs := [1, 2, 3] }),
  (24, { vs := [4] }),
  (25, { vs := [3, 4, 5, 6, 7] }),
  (26, { vs := [6, 7], modes := [.b, .m] }),
  (27, { vs := [2, 3, 4] }),
  (28, { vs := [2, 3], keep := [(0, [(0, .v), (3, .v)])] }),
  (29, { vs := [4, 5, 6] }),
  (30, { vs := [4, 5, 6, 7, 8] }),
  (31, { vs := [8, 9, 10, 11, 12, 13, 14], keep := [(0, [(0, .v), (2, .v), (3, .v), (11, .v), (13, .o 1 true)]), (2, [(0, .v), (2, .v), (3, .v), (11, .v), (13, .v), (14, .v)])] }),
  (32, { vs := [2] }),
  (33, { vs := [8, 9, 10, 11, 12, 13, 14] }),
  (34, { vs := [2, 3, 4], keep := [(0, [(3, .v), (4, .v)])] }),
  (35, { vs := [6, 7, 8, 9, 10, 11, 12, 13, 14, 15], keep := [(1, [(0, .v), (1, .v), (2, .v), (11, .o 3 true), (12, .o 3 true), (13, .v)]), (4, [(11, .o 3 true), (12, .v), (15, .v)])] }),
  (36, { vs := [6, 7, 8, 9, 10, 11, 12, 13, 15, 62, 63, 64], keep := [(1, [(1, .v), (2, .v), (13, .o 3 true), (62, .v), (63, .v), (64, .v)])] }),
  (37, { vs := [2, 3, 4], keep := [(0, [(0, .v), (3, .v)])] }),
  (38, { vs := [4, 5], keep := [(0, [(0, .v), (1, .v), (5, .v)])] }),
  (39, { vs := [4] }),
  (40, { vs := [2] }),
  (41, { vs := [1, 2, 3, 4, 5, 6, 7], keep := [(0, [(1, .v), (5, .v), (6, .v), (7, .v)])] }),
  (42, { vs := [3, 4] }),
  (43, { vs := [2] }),
  (44, { vs := [4, 5] }),
  (45, { vs := [4] }),
  (46, { vs := [2, 3] }),
  (47, { vs := [4] }),
  (48, { vs := [6, 7], modes := [.m] }),
  (49, { vs := [2] }),
  (50, { vs := [4, 5] }),
  (51, { vs := [3, 4, 5, 6, 7], keep := [(0, [(0, .v), (3, .v), (5, .o 3 true), (6, .v), (7, .v)])] }),
  (52, { vs := [4, 5] }),
  (53, { vs := [6, 7, 8, 9], modes := [.m, .b, .m] }),
  (54, { vs := [4] }),
  (55, { vs := [2] }),
  (56, { vs := [6] }),
  (57, { vs := [4] }),
  (58, { vs := [4, 5, 6, 7], keep := [(0, [(0, .v), (1, .v), (5, .o 1 true), (6, .v), (7, .v)])] }),
  (59, { vs := [2] }),
  (60, { vs := [4, 5] }),
  (61, { vs := [2, 3], keep := [(0, [(0, .v), (3, .v)])] }),
  (62, { vs := [4, 5, 6, 7] }),
  (63, { vs := [4], modes := [.l] }),
  (64, { vs := [2, 3, 4] }),
  (65, { vs := [4] }),
  (66, { vs := [3, 4] }),
  (67, { vs := [2, 3] }),
  (68, { vs := [3] }),
  (69, { vs := [4] }),
  (70, { vs := [2, 3, 4, 5, 7, 8], keep := [(0, [(0, .v), (7, .v), (8, .v)])] }),
  (71, { vs := [6, 7, 8, 9, 10, 11], keep := [(0, [(0, .v), (1, .v), (2, .v), (8, .v), (9, .v), (10, .v)])] }),
  (72, { vs := [2, 4] }),
  (73, { vs := [4, 5, 7, 8], keep := [(0, [(0, .v), (1, .v), (7, .v), (8, .v)])] }),
  (74, { vs := [4] }),
  (77, { vs := [4, 5, 7, 8], keep := [(0, [(0, .v), (1, .v), (7, .v), (8, .v)])] }),
  (78, { vs := [4, 5, 6, 7, 8, 9, 10, 11, 42], keep := [(3, [(7, .v), (8, .v), (9, .v)])] }),
  (79, { vs := [2, 3], keep := [(0, [(0, .v), (3, .v)])] }),
  (80, { vs := [2] }),
  (81, { vs := [10, 11, 12, 13, 14, 15, 16, 17, 18, 19, 20], keep := [(0, [(0, .v), (1, .v), (2, .v), (3, .v), (4, .v), (10, .v), (11, .v)])], modes := [.l] }),
  (82, { vs := [2] }),
  (83, { vs := [4] }),
  (84, { vs := [2, 3] }),
  (85, { vs := [8, 9, 10, 11], keep := [(0, [(0, .v), (1, .v), (2, .v), (3, .v), (9, .v), (10, .v)])] }),
  (86, { vs := [4] }),
  (88, { vs := [4, 5, 6, 7, 8, 9] }),
  (90, { vs := [4, 5] }),
  (91, { vs := [2] }),
  (92, { vs := [2] }),
  (93, { vs := [2] }),
  (94, { vs := [2] }),
  (95, { vs := [4, 5] }),
  (96, { vs := [8, 9], keep := [(0, [(0, .v), (1, .v), (2, .v), (3, .v), (8, .v)]), (2, [(0, .v), (1, .v), (2, .v), (3, .v), (8, .v), (9, .v)])], modes := [.l] }),
  (97, { vs := [8, 9, 10, 11, 12], keep := [(0, [(0, .v), (3, .v), (8, .v), (9, .v), (10, .v), (11, .v)]), (2, [(0, .v), (3, .v), (8, .v), (9, .v), (12, .v)])], modes := [.l] }),
  (98, { vs := [8, 9, 10, 11, 12], keep := [(0, [(0, .v), (1, .v), (8, .v), (9, .v), (10, .v), (11, .v)])], modes := [.l] }),
  (99, { vs := [8, 9, 10, 11, 12, 13, 14, 55] }),
  (100, { vs := [8, 9], keep := [(0, [(0, .v), (8, .v), (9, .v)])], modes := [.l] }),
  (101, { vs := [8, 9, 10, 11, 12], keep := [(0, [(0, .v), (1, .v), (2, .v), (3, .v), (9, .v), (10, .v)]), (2, [(0, .v), (1, .v), (2, .v), (3, .v), (9, .v), (10, .v)]), (4, [(0, .v), (1, .v), (2, .v), (3, .v), (9, .v), (10, .v), (11, .v)]), (6, [(0, .v), (1, .v), (2, .v), (3, .v), (9, .v), (10, .v), (12, .v)])], modes := [.l] }),
  (102, { vs := [10, 11, 12], keep := [(0, [(0, .v), (1, .v), (4, .v), (11, .v), (12, .v)]), (2, [(0, .v), (1, .v), (4, .v), (11, .v), (12, .v)]), (4, [(0, .v), (1, .v), (4, .v), (11, .v), (12, .v)])], modes := [.l] }),
  (103, { vs := [10, 11, 12, 13], keep := [(0, [(0, .v), (1, .v), (4, .v), (12, .v), (13, .v)]), (2, [(0, .v), (1, .v), (4, .v), (12, .v), (13, .v)]), (4, [(0, .v), (1, .v), (4, .v), (12, .v), (13, .v)]), (6, [(0, .v), (1, .v), (4, .v), (12, .v), (13, .v)]), (8, [(0, .v), (1, .v), (4, .v), (12, .v), (13, .v)])], modes := [.l] }),
  (104, { vs := [2] }),
  (105, { vs := [2] }),
  (107, { vs := [4, 5, 6, 7, 9], keep := [(0, [(0, .v), (1, .v), (6, .v), (7, .v)])] }),
  (108, { vs := [4, 5, 6], keep := [(0, [(0, .v), (1, .v), (5, .v)])] }),
  (109, { vs := [4] }),
  (110, { vs := [2, 3], keep := [(0, [(0, .v), (2, .v), (3, .v)])] }),
  (111, { vs := [4, 5, 6] }),
  (112, { vs := [4, 5, 6, 7, 8, 9, 10, 11, 12, 13] }),
  (114, { vs := [4] }),
  (115, { vs := [4, 5], keep := [(0, [(0, .v), (1, .v), (5, .v)])] }),
  (116, { vs := [4, 5, 6, 7, 8, 9, 10, 11], keep := [(0, [(0, .v), (1, .v), (5, .v), (6, .v), (7, .v), (8, .v), (9, .v), (10, .v)]), (2, [(0, .v), (1, .v), (5, .v), (6, .v), (7, .v), (9, .v), (11, .v)])] }),
  (117, { vs := [10, 11], keep := [(0, [(0, .v), (2, .v), (3, .v), (4, .v), (10, .v)])], modes := [.l] }),
  (118, { vs := [2] }),
  (119, { vs := [2] }),
  (120, { vs := [8] }),
  (121, { vs := [12] }),
  (122, { vs := [2, 4], keep := [(0, [(2, .v), (4, .v)])] }),
  (123, { vs := [2, 3] }),
  (125, { vs := [4, 5, 6, 7, 8, 9, 10, 11, 12, 13], keep := [(1, [(0, .v), (1, .v), (5, .v), (6, .v), (7, .v), (8, .v), (9, .v), (10, .v)])] }),
  (128, { vs := [2, 3, 4, 5, 6, 7, 8], keep := [(0, [(0, .v), (4, .v), (5, .v)]), (2, [(4, .v), (6, .v), (7, .v), (8, .v)])] }),
  (129, { vs := [10, 11] }),
  (130, { vs := [2, 3, 4, 5, 6, 7, 8, 9, 10, 11, 12] }),
  (131, { vs := [4] }),
  (133, { vs := [2] }),
  (134, { vs := [4, 5, 6, 7, 8, 9, 10], keep := [(0, [(0, .v), (1, .v), (5, .v), (6, .v), (7, .v), (8, .v), (9, .v)]), (2, [(0, .v), (1, .v), (5, .v), (6, .v), (7, .v), (8, .v), (10, .v)])] }),
  (136, { vs := [2, 3, 4, 5, 6, 7, 8], keep := [(0, [(0, .v), (4, .v), (5, .v)]), (2, [(4, .v), (6, .v), (7, .v), (8, .v)])] })]
def annOf : List (Nat × Ann) → Nat → Ann
  | [], _ => {}
  | (k, a) :: l, f => if k = f then a else annOf l f
def ann (f : FuncId) : Ann := annOf annL f
@[go_sem] theorem ty3 : tyOf Go.Proofs.Tryd.prog 3 = .int .i64 := by kernel_rfl
@[go_sem] theorem sz3 : szOf Go.Proofs.Tryd.prog 3 = 1 := by kernel_rfl
@[go_sem] theorem by3 : byOf Go.Proofs.Tryd.prog 3 = 8 := by kernel_rfl
@[go_sem] theorem kn3 : known Go.Proofs.Tryd.prog 3 = true := by kernel_rfl
@[go_sem] theorem zk3 : zeroOk Go.Proofs.Tryd.prog 3 = true := by kernel_rfl
@[go_sem] theorem ze3 : zeOf Go.Proofs.Tryd.prog 3 = .int .i64 0 := by kernel_rfl
@[go_sem] theorem ty4 : tyOf Go.Proofs.Tryd.prog 4 = .bool := by kernel_rfl
@[go_sem] theorem sz4 : szOf Go.Proofs.Tryd.prog 4 = 1 := by kernel_rfl
@[go_sem] theorem by4 : byOf Go.Proofs.Tryd.prog 4 = 1 := by kernel_rfl
@[go_sem] theorem kn4 : known Go.Proofs.Tryd.prog 4 = true := by kernel_rfl
@[go_sem] theorem zk4 : zeroOk Go.Proofs.Tryd.prog 4 = true := by kernel_rfl
@[go_sem] theorem ze4 : zeOf Go.Proofs.Tryd.prog 4 = .bool false := by kernel_rfl
@[go_sem] theorem ty5 : tyOf Go.Proofs.Tryd.prog 5 = .int .u8 := by kernel_rfl
@[go_sem] theorem sz5 : szOf Go.Proofs.Tryd.prog 5 = 1 := by kernel_rfl
@[go_sem] theorem by5 : byOf Go.Proofs.Tryd.prog 5 = 1 := by kernel_rfl
@[go_sem] theorem kn5 : known Go.Proofs.Tryd.prog 5 = true := by kernel_rfl
@[go_sem] theorem zk5 : zeroOk Go.Proofs.Tryd.prog 5 = true := by kernel_rfl
@[go_sem] theorem ze5 : zeOf Go.Proofs.Tryd.prog 5 = .int .u8 0 := by kernel_rfl
@[go_sem] theorem ty9 : tyOf Go.Proofs.Tryd.prog 9 = .str := by kernel_rfl
@[go_sem] theorem sz9 : szOf Go.Proofs.Tryd.prog 9 = 1 := by kernel_rfl
@[go_sem] theorem by9 : byOf Go.Proofs.Tryd.prog 9 = 16 := by kernel_rfl
@[go_sem] theorem kn9 : known Go.Proofs.Tryd.prog 9 = true := by kernel_rfl
@[go_sem] theorem zk9 : zeroOk Go.Proofs.Tryd.prog 9 = true := by kernel_rfl
@[go_sem] theorem ze9 : zeOf Go.Proofs.Tryd.prog 9 = .str [] := by kernel_rfl
@[go_sem] theorem ty21 : tyOf Go.Proofs.Tryd.prog 21 = .int .i32 := by kernel_rfl
@[go_sem] theorem sz21 : szOf Go.Proofs.Tryd.prog 21 = 1 := by kernel_rfl
@[go_sem] theorem by21 : byOf Go.Proofs.Tryd.prog 21 = 4 := by kernel_rfl
@[go_sem] theorem kn21 : known Go.Proofs.Tryd.prog 21 = true := by kernel_rfl
@[go_sem] theorem zk21 : zeroOk Go.Proofs.Tryd.prog 21 = true := by kernel_rfl
@[go_sem] theorem ze21 : zeOf Go.Proofs.Tryd.prog 21 = .int .i32 0 := by kernel_rfl
@[go_sem] theorem ty22 : tyOf Go.Proofs.Tryd.prog 22 = .slice 37 := by kernel_rfl
@[go_sem] theorem sz22 : szOf Go.Proofs.Tryd.prog 22 = 1 := by kernel_rfl
@[go_sem] theorem by22 : byOf Go.Proofs.Tryd.prog 22 = 24 := by kernel_rfl
@[go_sem] theorem kn22 : known Go.Proofs.Tryd.prog 22 = true := by kernel_rfl
@[go_sem] theorem zk22 : zeroOk Go.Proofs.Tryd.prog 22 = true := by kernel_rfl
@[go_sem] theorem ze22 : zeOf Go.Proofs.Tryd.prog 22 = .nils := by kernel_rfl
@[go_sem] theorem ty24 : tyOf Go.Proofs.Tryd.prog 24 = .slice 39 := by kernel_rfl
@[go_sem] theorem sz24 : szOf Go.Proofs.Tryd.prog 24 = 1 := by kernel_rfl
@[go_sem] theorem by24 : byOf Go.Proofs.Tryd.prog 24 = 24 := by kernel_rfl
@[go_sem] theorem kn24 : known Go.Proofs.Tryd.prog 24 = true := by kernel_rfl
@[go_sem] theorem zk24 : zeroOk Go.Proofs.Tryd.prog 24 = true := by kernel_rfl
@[go_sem] theorem ze24 : zeOf Go.Proofs.Tryd.prog 24 = .nils := by kernel_rfl
@[go_sem] theorem ty37 : tyOf Go.Proofs.Tryd.prog 37 = .strct [(0, 9), (1, 4), (2, 9)] := by kernel_rfl
@[go_sem] theorem sz37 : szOf Go.Proofs.Tryd.prog 37 = 3 := by kernel_rfl
@[go_sem] theorem by37 : byOf Go.Proofs.Tryd.prog 37 = 40 := by kernel_rfl
@[go_sem] theorem kn37 : known Go.Proofs.Tryd.prog 37 = true := by kernel_rfl
@[go_sem] theorem zk37 : zeroOk Go.Proofs.Tryd.prog 37 = true := by kernel_rfl
@[go_sem] theorem ze37 : zeOf Go.Proofs.Tryd.prog 37 = .agg [.str [], .bool false, .str []] := by kernel_rfl
@[go_sem] theorem fl37_0 : fldOf Go.Proofs.Tryd.prog 37 0 = some (0, 1, false) := by kernel_rfl
@[go_sem] theorem fl37_1 : fldOf Go.Proofs.Tryd.prog 37 1 = some (1, 1, false) := by kernel_rfl
@[go_sem] theorem fl37_2 : fldOf Go.Proofs.Tryd.prog 37 2 = some (2, 1, false) := by kernel_rfl
@[go_sem] theorem ft37 : flatTy Go.Proofs.Tryd.prog 37 = true := by kernel_rfl
@[go_sem] theorem ty39 : tyOf Go.Proofs.Tryd.prog 39 = .strct [(0, 9), (1, 4), (2, 9)] := by kernel_rfl
@[go_sem] theorem sz39 : szOf Go.Proofs.Tryd.prog 39 = 3 := by kernel_rfl
@[go_sem] theorem by39 : byOf Go.Proofs.Tryd.prog 39 = 40 := by kernel_rfl
@[go_sem] theorem kn39 : known Go.Proofs.Tryd.prog 39 = true := by kernel_rfl
@[go_sem] theorem zk39 : zeroOk Go.Proofs.Tryd.prog 39 = true := by kernel_rfl
@[go_sem] theorem ze39 : zeOf Go.Proofs.Tryd.prog 39 = .agg [.str [], .bool false, .str []] := by kernel_rfl
@[go_sem] theorem fl39_0 : fldOf Go.Proofs.Tryd.prog 39 0 = some (0, 1, false) := by kernel_rfl
@[go_sem] theorem fl39_1 : fldOf Go.Proofs.Tryd.prog 39 1 = some (1, 1, false) := by kernel_rfl
@[go_sem] theorem fl39_2 : fldOf Go.Proofs.Tryd.prog 39 2 = some (2, 1, false) := by kernel_rfl
@[go_sem] theorem ft39 : flatTy Go.Proofs.Tryd.prog 39 = true := by kernel_rfl
@[go_sem] theorem ty46 : tyOf Go.Proofs.Tryd.prog 46 = .func := by kernel_rfl
@[go_sem] theorem sz46 : szOf Go.Proofs.Tryd.prog 46 = 1 := by kernel_rfl
@[go_sem] theorem by46 : byOf Go.Proofs.Tryd.prog 46 = 8 := by kernel_rfl
@[go_sem] theorem kn46 : known Go.Proofs.Tryd.prog 46 = true := by kernel_rfl
@[go_sem] theorem zk46 : zeroOk Go.Proofs.Tryd.prog 46 = true := by kernel_rfl
@[go_sem] theorem ze46 : zeOf Go.Proofs.Tryd.prog 46 = .nilf := by kernel_rfl
@[go_sem] theorem ty49 : tyOf Go.Proofs.Tryd.prog 49 = .slice 9 := by kernel_rfl
@[go_sem] theorem sz49 : szOf Go.Proofs.Tryd.prog 49 = 1 := by kernel_rfl
@[go_sem] theorem by49 : byOf Go.Proofs.Tryd.prog 49 = 24 := by kernel_rfl
@[go_sem] theorem kn49 : known Go.Proofs.Tryd.prog 49 = true := by kernel_rfl
@[go_sem] theorem zk49 : zeroOk Go.Proofs.Tryd.prog 49 = true := by kernel_rfl
@[go_sem] theorem ze49 : zeOf Go.Proofs.Tryd.prog 49 = .nils := by kernel_rfl
@[go_sem] theorem ty54 : tyOf Go.Proofs.Tryd.prog 54 = .func := by kernel_rfl
@[go_sem] theorem sz54 : szOf Go.Proofs.Tryd.prog 54 = 1 := by kernel_rfl
@[go_sem] theorem by54 : byOf Go.Proofs.Tryd.prog 54 = 8 := by kernel_rfl
@[go_sem] theorem kn54 : known Go.Proofs.Tryd.prog 54 = true := by kernel_rfl
@[go_sem] theorem zk54 : zeroOk Go.Proofs.Tryd.prog 54 = true := by kernel_rfl
@[go_sem] theorem ze54 : zeOf Go.Proofs.Tryd.prog 54 = .nilf := by kernel_rfl
@[go_sem] theorem ty57 : tyOf Go.Proofs.Tryd.prog 57 = .slice 5 := by kernel_rfl
@[go_sem] theorem sz57 : szOf Go.Proofs.Tryd.prog 57 = 1 := by kernel_rfl
@[go_sem] theorem by57 : byOf Go.Proofs.Tryd.prog 57 = 24 := by kernel_rfl
@[go_sem] theorem kn57 : known Go.Proofs.Tryd.prog 57 = true := by kernel_rfl
@[go_sem] theorem zk57 : zeroOk Go.Proofs.Tryd.prog 57 = true := by kernel_rfl
@[go_sem] theorem ze57 : zeOf Go.Proofs.Tryd.prog 57 = .nils := by kernel_rfl
@[go_sem] theorem ty66 : tyOf Go.Proofs.Tryd.prog 66 = .func := by kernel_rfl
@[go_sem] theorem sz66 : szOf Go.Proofs.Tryd.prog 66 = 1 := by kernel_rfl
@[go_sem] theorem by66 : byOf Go.Proofs.Tryd.prog 66 = 8 := by kernel_rfl
@[go_sem] theorem kn66 : known Go.Proofs.Tryd.prog 66 = true := by kernel_rfl
@[go_sem] theorem zk66 : zeroOk Go.Proofs.Tryd.prog 66 = true := by kernel_rfl
@[go_sem] theorem ze66 : zeOf Go.Proofs.Tryd.prog 66 = .nilf := by kernel_rfl
@[go_sem] theorem ty69 : tyOf Go.Proofs.Tryd.prog 69 = .func := by kernel_rfl
@[go_sem] theorem sz69 : szOf Go.Proofs.Tryd.prog 69 = 1 := by kernel_rfl
@[go_sem] theorem by69 : byOf Go.Proofs.Tryd.prog 69 = 8 := by kernel_rfl
@[go_sem] theorem kn69 : known Go.Proofs.Tryd.prog 69 = true := by kernel_rfl
@[go_sem] theorem zk69 : zeroOk Go.Proofs.Tryd.prog 69 = true := by kernel_rfl
@[go_sem] theorem ze69 : zeOf Go.Proofs.Tryd.prog 69 = .nilf := by kernel_rfl
@[go_sem] theorem ty75 : tyOf Go.Proofs.Tryd.prog 75 = .int .u64 := by kernel_rfl
@[go_sem] theorem sz75 : szOf Go.Proofs.Tryd.prog 75 = 1 := by kernel_rfl
@[go_sem] theorem by75 : byOf Go.Proofs.Tryd.prog 75 = 8 := by kernel_rfl
@[go_sem] theorem kn75 : known Go.Proofs.Tryd.prog 75 = true := by kernel_rfl
@[go_sem] theorem zk75 : zeroOk Go.Proofs.Tryd.prog 75 = true := by kernel_rfl
@[go_sem] theorem ze75 : zeOf Go.Proofs.Tryd.prog 75 = .int .u64 0 := by kernel_rfl
@[go_sem] theorem ty79 : tyOf Go.Proofs.Tryd.prog 79 = .ptr 81 := by kernel_rfl
@[go_sem] theorem sz79 : szOf Go.Proofs.Tryd.prog 79 = 1 := by kernel_rfl
@[go_sem] theorem by79 : byOf Go.Proofs.Tryd.prog 79 = 8 := by kernel_rfl
@[go_sem] theorem kn79 : known Go.Proofs.Tryd.prog 79 = true := by kernel_rfl
@[go_sem] theorem zk79 : zeroOk Go.Proofs.Tryd.prog 79 = true := by kernel_rfl
@[go_sem] theorem ze79 : zeOf Go.Proofs.Tryd.prog 79 = .undef := by kernel_rfl
@[go_sem] theorem ty81 : tyOf Go.Proofs.Tryd.prog 81 = .strct [(0, 79), (1, 57)] := by kernel_rfl
@[go_sem] theorem sz81 : szOf Go.Proofs.Tryd.prog 81 = 2 := by kernel_rfl
@[go_sem] theorem by81 : byOf Go.Proofs.Tryd.prog 81 = 32 := by kernel_rfl
@[go_sem] theorem kn81 : known Go.Proofs.Tryd.prog 81 = true := by kernel_rfl
@[go_sem] theorem zk81 : zeroOk Go.Proofs.Tryd.prog 81 = true := by kernel_rfl
@[go_sem] theorem ze81 : zeOf Go.Proofs.Tryd.prog 81 = .agg [.undef, .nils] := by kernel_rfl
@[go_sem] theorem fl81_0 : fldOf Go.Proofs.Tryd.prog 81 0 = some (0, 1, false) := by kernel_rfl
@[go_sem] theorem fl81_1 : fldOf Go.Proofs.Tryd.prog 81 1 = some (1, 1, false) := by kernel_rfl
@[go_sem] theorem ft81 : flatTy Go.Proofs.Tryd.prog 81 = false := by kernel_rfl
@[go_sem] theorem ty91 : tyOf Go.Proofs.Tryd.prog 91 = .int .i64 := by kernel_rfl
@[go_sem] theorem sz91 : szOf Go.Proofs.Tryd.prog 91 = 1 := by kernel_rfl
@[go_sem] theorem by91 : byOf Go.Proofs.Tryd.prog 91 = 8 := by kernel_rfl
@[go_sem] theorem kn91 : known Go.Proofs.Tryd.prog 91 = true := by kernel_rfl
@[go_sem] theorem zk91 : zeroOk Go.Proofs.Tryd.prog 91 = true := by kernel_rfl
@[go_sem] theorem ze91 : zeOf Go.Proofs.Tryd.prog 91 = .int .i64 0 := by kernel_rfl
@[go_sem] theorem ty98 : tyOf Go.Proofs.Tryd.prog 98 = .int .u32 := by kernel_rfl
@[go_sem] theorem sz98 : szOf Go.Proofs.Tryd.prog 98 = 1 := by kernel_rfl
@[go_sem] theorem by98 : byOf Go.Proofs.Tryd.prog 98 = 4 := by kernel_rfl
@[go_sem] theorem kn98 : known Go.Proofs.Tryd.prog 98 = true := by kernel_rfl
@[go_sem] theorem zk98 : zeroOk Go.Proofs.Tryd.prog 98 = true := by kernel_rfl
@[go_sem] theorem ze98 : zeOf Go.Proofs.Tryd.prog 98 = .int .u32 0 := by kernel_rfl
@[go_sem] theorem ty100 : tyOf Go.Proofs.Tryd.prog 100 = .int .u64 := by kernel_rfl
@[go_sem] theorem sz100 : szOf Go.Proofs.Tryd.prog 100 = 1 := by kernel_rfl
@[go_sem] theorem by100 : byOf Go.Proofs.Tryd.prog 100 = 8 := by kernel_rfl
@[go_sem] theorem kn100 : known Go.Proofs.Tryd.prog 100 = true := by kernel_rfl
@[go_sem] theorem zk100 : zeroOk Go.Proofs.Tryd.prog 100 = true := by kernel_rfl
@[go_sem] theorem ze100 : zeOf Go.Proofs.Tryd.prog 100 = .int .u64 0 := by kernel_rfl
@[go_sem] theorem ty107 : tyOf Go.Proofs.Tryd.prog 107 = .ptr 5 := by kernel_rfl
@[go_sem] theorem sz107 : szOf Go.Proofs.Tryd.prog 107 = 1 := by kernel_rfl
@[go_sem] theorem by107 : byOf Go.Proofs.Tryd.prog 107 = 8 := by kernel_rfl
@[go_sem] theorem kn107 : known Go.Proofs.Tryd.prog 107 = true := by kernel_rfl
@[go_sem] theorem zk107 : zeroOk Go.Proofs.Tryd.prog 107 = true := by kernel_rfl
@[go_sem] theorem ze107 : zeOf Go.Proofs.Tryd.prog 107 = .undef := by kernel_rfl
@[go_sem] theorem ty109 : tyOf Go.Proofs.Tryd.prog 109 = .int .u64 := by kernel_rfl
@[go_sem] theorem sz109 : szOf Go.Proofs.Tryd.prog 109 = 1 := by kernel_rfl
@[go_sem] theorem by109 : byOf Go.Proofs.Tryd.prog 109 = 8 := by kernel_rfl
@[go_sem] theorem kn109 : known Go.Proofs.Tryd.prog 109 = true := by kernel_rfl
@[go_sem] theorem zk109 : zeroOk Go.Proofs.Tryd.prog 109 = true := by kernel_rfl
@[go_sem] theorem ze109 : zeOf Go.Proofs.Tryd.prog 109 = .int .u64 0 := by kernel_rfl
@[go_sem] theorem ty113 : tyOf Go.Proofs.Tryd.prog 113 = .ptr 3 := by kernel_rfl
@[go_sem] theorem sz113 : szOf Go.Proofs.Tryd.prog 113 = 1 := by kernel_rfl
@[go_sem] theorem by113 : byOf Go.Proofs.Tryd.prog 113 = 8 := by kernel_rfl
@[go_sem] theorem kn113 : known Go.Proofs.Tryd.prog 113 = true := by kernel_rfl
@[go_sem] theorem zk113 : zeroOk Go.Proofs.Tryd.prog 113 = true := by kernel_rfl
@[go_sem] theorem ze113 : zeOf Go.Proofs.Tryd.prog 113 = .undef := by kernel_rfl
@[go_sem] theorem ty122 : tyOf Go.Proofs.Tryd.prog 122 = .ptr 109 := by kernel_rfl
@[go_sem] theorem sz122 : szOf Go.Proofs.Tryd.prog 122 = 1 := by kernel_rfl
@[go_sem] theorem by122 : byOf Go.Proofs.Tryd.prog 122 = 8 := by kernel_rfl
@[go_sem] theorem kn122 : known Go.Proofs.Tryd.prog 122 = true := by kernel_rfl
@[go_sem] theorem zk122 : zeroOk Go.Proofs.Tryd.prog 122 = true := by kernel_rfl
@[go_sem] theorem ze122 : zeOf Go.Proofs.Tryd.prog 122 = .undef := by kernel_rfl
@[go_sem] theorem ty126 : tyOf Go.Proofs.Tryd.prog 126 = .arr 256 5 := by kernel_rfl
@[go_sem] theorem sz126 : szOf Go.Proofs.Tryd.prog 126 = 256 := by kernel_rfl
@[go_sem] theorem by126 : byOf Go.Proofs.Tryd.prog 126 = 256 := by kernel_rfl
@[go_sem] theorem kn126 : known Go.Proofs.Tryd.prog 126 = true := by kernel_rfl
@[go_sem] theorem zk126 : zeroOk Go.Proofs.Tryd.prog 126 = true := by kernel_rfl
@[go_sem] theorem ty128 : tyOf Go.Proofs.Tryd.prog 128 = .strct [(0, 5), (1, 5)] := by kernel_rfl
@[go_sem] theorem sz128 : szOf Go.Proofs.Tryd.prog 128 = 2 := by kernel_rfl
@[go_sem] theorem by128 : byOf Go.Proofs.Tryd.prog 128 = 2 := by kernel_rfl
@[go_sem] theorem kn128 : known Go.Proofs.Tryd.prog 128 = true := by kernel_rfl
@[go_sem] theorem zk128 : zeroOk Go.Proofs.Tryd.prog 128 = true := by kernel_rfl
@[go_sem] theorem ze128 : zeOf Go.Proofs.Tryd.prog 128 = .agg [.int .u8 0, .int .u8 0] := by kernel_rfl
@[go_sem] theorem fl128_0 : fldOf Go.Proofs.Tryd.prog 128 0 = some (0, 1, false) := by kernel_rfl
@[go_sem] theorem fl128_1 : fldOf Go.Proofs.Tryd.prog 128 1 = some (1, 1, false) := by kernel_rfl
@[go_sem] theorem ft128 : flatTy Go.Proofs.Tryd.prog 128 = true := by kernel_rfl
@[go_sem] theorem ty129 : tyOf Go.Proofs.Tryd.prog 129 = .arr 16 128 := by kernel_rfl
@[go_sem] theorem sz129 : szOf Go.Proofs.Tryd.prog 129 = 32 := by kernel_rfl
@[go_sem] theorem by129 : byOf Go.Proofs.Tryd.prog 129 = 32 := by kernel_rfl
@[go_sem] theorem kn129 : known Go.Proofs.Tryd.prog 129 = true := by kernel_rfl
@[go_sem] theorem zk129 : zeroOk Go.Proofs.Tryd.prog 129 = true := by kernel_rfl
@[go_sem] theorem an3 : ann 3 = { vs := [4, 5, 6, 7, 8, 9, 10, 11, 12, 13, 14, 15] } := by kernel_rfl
@[go_sem] theorem an4 : ann 4 = { vs := [4, 5, 6, 7, 8, 9, 10, 11, 12, 13, 14, 15] } := by kernel_rfl
@[go_sem] theorem an5 : ann 5 = { vs := [8, 9, 10, 11, 12, 13, 14, 15, 16, 17, 18, 19] } := by kernel_rfl
@[go_sem] theorem an6 : ann 6 = { vs := [6, 7, 8, 9, 10, 11, 12, 13, 14, 15, 16, 17] } := by kernel_rfl
@[go_sem] theorem an7 : ann 7 = { vs := [4, 5], keep := [(0, [(0, .v), (1, .v), (5, .v)])] } := by kernel_rfl
@[go_sem] theorem an8 : ann 8 = { vs := [4, 5, 6, 7, 8] } := by kernel_rfl
@[go_sem] theorem an9 : ann 9 = { vs := [2, 3, 4], keep := [(0, [(0, .v), (3, .v), (4, .v)])] } := by kernel_rfl
@[go_sem] theorem an10 : ann 10 = { vs := [4, 5, 6, 7, 8] } := by kernel_rfl
@[go_sem] theorem an11 : ann 11 = { vs := [4, 5], keep := [(0, [(0, .v), (1, .v), (5, .v)])] } := by kernel_rfl
@[go_sem] theorem an12 : ann 12 = { vs := [4, 5], keep := [(0, [(0, .v), (1, .v), (5, .v)])], modes := [.l] } := by kernel_rfl
@[go_sem] theorem an13 : ann 13 = { vs := [4, 5], keep := [(0, [(0, .v), (1, .v), (5, .v)])] } := by kernel_rfl
@[go_sem] theorem an14 : ann 14 = { vs := [4, 5, 6, 7, 8] } := by kernel_rfl
@[go_sem] theorem an15 : ann 15 = { vs := [4, 5, 6, 7, 8] } := by kernel_rfl
@[go_sem] theorem an16 : ann 16 = { vs := [8, 9, 10, 11, 12] } := by kernel_rfl
@[go_sem] theorem an17 : ann 17 = { vs := [8, 9, 10, 11, 12] } := by kernel_rfl
@[go_sem] theorem an18 : ann 18 = { vs := [6, 7, 8, 9, 10] } := by kernel_rfl
@[go_sem] theorem an19 : ann 19 = { vs := [6, 7, 8, 9, 10] } := by kernel_rfl
@[go_sem] theorem an20 : ann 20 = { vs := [2, 4] } := by kernel_rfl
@[go_sem] theorem an21 : ann 21 = { vs := [4] } := by kernel_rfl
@[go_sem] theorem an22 : ann 22 = { vs := [4, 5, 6, 7], keep := [(0, [(0, .v), (1, .v), (6, .v), (7, .v)]), (1000009, [])] } := by kernel_rfl
@[go_sem] theorem an23 : ann 23 = { vs := [1, 2, 3] } := by kernel_rfl
@[go_sem] theorem an24 : ann 24 = { vs := [4] } := by kernel_rfl
@[go_sem] theorem an25 : ann 25 = { vs := [3, 4, 5, 6, 7] } := by kernel_rfl
@[go_sem] theorem an26 : ann 26 = { vs := [6, 7], modes := [.b, .m] } := by kernel_rfl
@[go_sem] theorem an27 : ann 27 = { vs := [2, 3, 4] } := by kernel_rfl
@[go_sem] theorem an28 : ann 28 = { vs := [2, 3], keep := [(0, [(0, .v), (3, .v)])] } := by kernel_rfl
@[go_sem] theorem an29 : ann 29 = { vs := [4, 5, 6] } := by kernel_rfl
@[go_sem] theorem an30 : ann 30 = { vs := [4, 5, 6, 7, 8] } := by kernel_rfl
@[go_sem] theorem an31 : ann 31 = { vs := [8, 9, 10, 11, 12, 13, 14], keep := [(0, [(0, .v), (2, .v), (3, .v), (11, .v), (13, .o 1 true)]), (2, [(0, .v), (2, .v), (3, .v), (11, .v), (13, .v), (14, .v)])] } := by kernel_rfl
@[go_sem] theorem an32 : ann 32 = { vs := [2] } := by kernel_rfl
@[go_sem] theorem an33 : ann 33 = { vs := [8, 9, 10, 11, 12, 13, 14] } := by kernel_rfl
@[go_sem] theorem an34 : ann 34 = { vs := [2, 3, 4], keep := [(0, [(3, .v), (4, .v)])] } := by kernel_rfl
@[go_sem] theorem an35 : ann 35 = { vs := [6, 7, 8, 9, 10, 11, 12, 13, 14, 15], keep := [(1, [(0, .v), (1, .v), (2, .v), (11, .o 3 true), (12, .o 3 true), (13, .v)]), (4, [(11, .o 3 true), (12, .v), (15, .v)])] } := by kernel_rfl
@[go_sem] theorem an36 : ann 36 = { vs := [6, 7, 8, 9, 10, 11, 12, 13, 15, 62, 63, 64], keep := [(1, [(1, .v), (2, .v), (13, .o 3 true), (62, .v), (63, .v), (64, .v)])] } := by kernel_rfl
@[go_sem] theorem an37 : ann 37 = { vs := [2, 3, 4], keep := [(0, [(0, .v), (3, .v)])] } := by kernel_rfl
@[go_sem] theorem an38 : ann 38 = { vs := [4, 5], keep := [(0, [(0, .v), (1, .v), (5, .v)])] } := by kernel_rfl
@[go_sem] theorem an39 : ann 39 = { vs := [4] } := by kernel_rfl
@[go_sem] theorem an40 : ann 40 = { vs := [2] } := by kernel_rfl
@[go_sem] theorem an41 : ann 41 = { vs := [1, 2, 3, 4, 5, 6, 7], keep := [(0, [(1, .v), (5, .v), (6, .v), (7, .v)])] } := by kernel_rfl
@[go_sem] theorem an42 : ann 42 = { vs := [3, 4] } := by kernel_rfl
@[go_sem] theorem an43 : ann 43 = { vs := [2] } := by kernel_rfl
@[go_sem] theorem an44 : ann 44 = { vs := [4, 5] } := by kernel_rfl
@[go_sem] theorem an45 : ann 45 = { vs := [4] } := by kernel_rfl
@[go_sem] theorem an46 : ann 46 = { vs := [2, 3] } := by kernel_rfl
@[go_sem] theorem an47 : ann 47 = { vs := [4] } := by kernel_rfl
@[go_sem] theorem an48 : ann 48 = { vs := [6, 7], modes := [.m] } := by kernel_rfl
@[go_sem] theorem an49 : ann 49 = { vs := [2] } := by kernel_rfl
@[go_sem] theorem an50 : ann 50 = { vs := [4, 5] } := by kernel_rfl
@[go_sem] theorem an51 : ann 51 = { vs := [3, 4, 5, 6, 7], keep := [(0, [(0, .v), (3, .v), (5, .o 3 true), (6, .v), (7, .v)])] } := by kernel_rfl
@[go_sem] theorem an52 : ann 52 = { vs := [4, 5] } := by kernel_rfl
@[go_sem] theorem an53 : ann 53 = { vs := [6, 7, 8, 9], modes := [.m, .b, .m] } := by kernel_rfl
@[go_sem] theorem an54 : ann 54 = { vs := [4] } := by kernel_rfl
@[go_sem] theorem an55 : ann 55 = { vs := [2] } := by kernel_rfl
@[go_sem] theorem an56 : ann 56 = { vs := [6] } := by kernel_rfl
@[go_sem] theorem an57 : ann 57 = { vs := [4] } := by kernel_rfl
@[go_sem] theorem an58 : ann 58 = { vs := [4, 5, 6, 7], keep := [(0, [(0, .v), (1, .v), (5, .o 1 true), (6, .v), (7, .v)])] } := by kernel_rfl
@[go_sem] theorem an59 : ann 59 = { vs := [2] } := by kernel_rfl
@[go_sem] theorem an60 : ann 60 = { vs := [4, 5] } := by kernel_rfl
@[go_sem] theorem an61 : ann 61 = { vs := [2, 3], keep := [(0, [(0, .v), (3, .v)])] } := by kernel_rfl
@[go_sem] theorem an62 : ann 62 = { vs := [4, 5, 6, 7] } := by kernel_rfl
@[go_sem] theorem an63 : ann 63 = { vs := [4], modes := [.l] } := by kernel_rfl
@[go_sem] theorem an64 : ann 64 = { vs := [2, 3, 4] } := by kernel_rfl
@[go_sem] theorem an65 : ann 65 = { vs := [4] } := by kernel_rfl
@[go_sem] theorem an66 : ann 66 = { vs := [3, 4] } := by kernel_rfl
@[go_sem] theorem an67 : ann 67 = { vs := [2, 3] } := by kernel_rfl
@[go_sem] theorem an68 : ann 68 = { vs := [3] } := by kernel_rfl
@[go_sem] theorem an69 : ann 69 = { vs := [4] } := by kernel_rfl
@[go_sem] theorem an70 : ann 70 = { vs := [2, 3, 4, 5, 7, 8], keep := [(0, [(0, .v), (7, .v), (8, .v)])] } := by kernel_rfl
@[go_sem] theorem an71 : ann 71 = { vs := [6, 7, 8, 9, 10, 11], keep := [(0, [(0, .v), (1, .v), (2, .v), (8, .v), (9, .v), (10, .v)])] } := by kernel_rfl
@[go_sem] theorem an72 : ann 72 = { vs := [2, 4] } := by kernel_rfl
@[go_sem] theorem an73 : ann 73 = { vs := [4, 5, 7, 8], keep := [(0, [(0, .v), (1, .v), (7, .v), (8, .v)])] } := by kernel_rfl
@[go_sem] theorem an74 : ann 74 = { vs := [4] } := by kernel_rfl
@[go_sem] theorem an77 : ann 77 = { vs := [4, 5, 7, 8], keep := [(0, [(0, .v), (1, .v), (7, .v), (8, .v)])] } := by kernel_rfl
@[go_sem] theorem an78 : ann 78 = { vs := [4, 5, 6, 7, 8, 9, 10, 11, 42], keep := [(3, [(7, .v), (8, .v), (9, .v)])] } := by kernel_rfl
@[go_sem] theorem an79 : ann 79 = { vs := [2, 3], keep := [(0, [(0, .v), (3, .v)])] } := by kernel_rfl
@[go_sem] theorem an80 : ann 80 = { vs := [2] } := by kernel_rfl
@[go_sem] theorem an81 : ann 81 = { vs := [10, 11, 12, 13, 14, 15, 16, 17, 18, 19, 20], keep := [(0, [(0, .v), (1, .v), (2, .v), (3, .v), (4, .v), (10, .v), (11, .v)])], modes := [.l] } := by kernel_rfl
@[go_sem] theorem an82 : ann 82 = { vs := [2] } := by kernel_rfl
@[go_sem] theorem an83 : ann 83 = { vs := [4] } := by kernel_rfl
@[go_sem] theorem an84 : ann 84 = { vs := [2, 3] } := by kernel_rfl
@[go_sem] theorem an85 : ann 85 = { vs := [8, 9, 10, 11], keep := [(0, [(0, .v), (1, .v), (2, .v), (3, .v), (9, .v), (10, .v)])] } := by kernel_rfl
@[go_sem] theorem an86 : ann 86 = { vs := [4] } := by kernel_rfl
@[go_sem] theorem an88 : ann 88 = { vs := [4, 5, 6, 7, 8, 9] } := by kernel_rfl
@[go_sem] theorem an90 : ann 90 = { vs := [4, 5] } := by kernel_rfl
@[go_sem] theorem an91 : ann 91 = { vs := [2] } := by kernel_rfl
@[go_sem] theorem an92 : ann 92 = { vs := [2] } := by kernel_rfl
@[go_sem] theorem an93 : ann 93 = { vs := [2] } := by kernel_rfl
@[go_sem] theorem an94 : ann 94 = { vs := [2] } := by kernel_rfl
@[go_sem] theorem an95 : ann 95 = { vs := [4, 5] } := by kernel_rfl
@[go_sem] theorem an96 : ann 96 = { vs := [8, 9], keep := [(0, [(0, .v), (1, .v), (2, .v), (3, .v), (8, .v)]), (2, [(0, .v), (1, .v), (2, .v), (3, .v), (8, .v), (9, .v)])], modes := [.l] } := by kernel_rfl
@[go_sem] theorem an97 : ann 97 = { vs := [8, 9, 10, 11, 12], keep := [(0, [(0, .v), (3, .v), (8, .v), (9, .v), (10, .v), (11, .v)]), (2, [(0, .v), (3, .v), (8, .v), (9, .v), (12, .v)])], modes := [.l] } := by kernel_rfl
@[go_sem] theorem an98 : ann 98 = { vs := [8, 9, 10, 11, 12], keep := [(0, [(0, .v), (1, .v), (8, .v), (9, .v), (10, .v), (11, .v)])], modes := [.l] } := by kernel_rfl
@[go_sem] theorem an99 : ann 99 = { vs := [8, 9, 10, 11, 12, 13, 14, 55] } := by kernel_rfl
@[go_sem] theorem an100 : ann 100 = { vs := [8, 9], keep := [(0, [(0, .v), (8, .v), (9, .v)])], modes := [.l] } := by kernel_rfl
@[go_sem] theorem an101 : ann 101 = { vs := [8, 9, 10, 11, 12], keep := [(0, [(0, .v), (1, .v), (2, .v), (3, .v), (9, .v), (10, .v)]), (2, [(0, .v), (1, .v), (2, .v), (3, .v), (9, .v), (10, .v)]), (4, [(0, .v), (1, .v), (2, .v), (3, .v), (9, .v), (10, .v), (11, .v)]), (6, [(0, .v), (1, .v), (2, .v), (3, .v), (9, .v), (10, .v), (12, .v)])], modes := [.l] } := by kernel_rfl
@[go_sem] theorem an102 : ann 102 = { vs := [10, 11, 12], keep := [(0, [(0, .v), (1, .v), (4, .v), (11, .v), (12, .v)]), (2, [(0, .v), (1, .v), (4, .v), (11, .v), (12, .v)]), (4, [(0, .v), (1, .v), (4, .v), (11, .v), (12, .v)])], modes := [.l] } := by kernel_rfl
@[go_sem] theorem an103 : ann 103 = { vs := [10, 11, 12, 13], keep := [(0, [(0, .v), (1, .v), (4, .v), (12, .v), (13, .v)]), (2, [(0, .v), (1, .v), (4, .v), (12, .v), (13, .v)]), (4, [(0, .v), (1, .v), (4, .v), (12, .v), (13, .v)]), (6, [(0, .v), (1, .v), (4, .v), (12, .v), (13, .v)]), (8, [(0, .v), (1, .v), (4, .v), (12, .v), (13, .v)])], modes := [.l] } := by kernel_rfl
@[go_sem] theorem an104 : ann 104 = { vs := [2] } := by kernel_rfl
@[go_sem] theorem an105 : ann 105 = { vs := [2] } := by kernel_rfl
@[go_sem] theorem an107 : ann 107 = { vs := [4, 5, 6, 7, 9], keep := [(0, [(0, .v), (1, .v), (6, .v), (7, .v)])] } := by kernel_rfl
@[go_sem] theorem an108 : ann 108 = { vs := [4, 5, 6], keep := [(0, [(0, .v), (1, .v), (5, .v)])] } := by kernel_rfl
@[go_sem] theorem an109 : ann 109 = { vs := [4] } := by kernel_rfl
@[go_sem] theorem an110 : ann 110 = { vs := [2, 3], keep := [(0, [(0, .v), (2, .v), (3, .v)])] } := by kernel_rfl
@[go_sem] theorem an111 : ann 111 = { vs := [4, 5, 6] } := by kernel_rfl
@[go_sem] theorem an112 : ann 112 = { vs := [4, 5, 6, 7, 8, 9, 10, 11, 12, 13] } := by kernel_rfl
@[go_sem] theorem an114 : ann 114 = { vs := [4] } := by kernel_rfl
@[go_sem] theorem an115 : ann 115 = { vs := [4, 5], keep := [(0, [(0, .v), (1, .v), (5, .v)])] } := by kernel_rfl
@[go_sem] theorem an116 : ann 116 = { vs := [4, 5, 6, 7, 8, 9, 10, 11], keep := [(0, [(0, .v), (1, .v), (5, .v), (6, .v), (7, .v), (8, .v), (9, .v), (10, .v)]), (2, [(0, .v), (1, .v), (5, .v), (6, .v), (7, .v), (9, .v), (11, .v)])] } := by kernel_rfl
@[go_sem] theorem an117 : ann 117 = { vs := [10, 11], keep := [(0, [(0, .v), (2, .v), (3, .v), (4, .v), (10, .v)])], modes := [.l] } := by kernel_rfl
@[go_sem] theorem an118 : ann 118 = { vs := [2] } := by kernel_rfl
@[go_sem] theorem an119 : ann 119 = { vs := [2] } := by kernel_rfl
@[go_sem] theorem an120 : ann 120 = { vs := [8] } := by kernel_rfl
@[go_sem] theorem an121 : ann 121 = { vs := [12] } := by kernel_rfl
@[go_sem] theorem an122 : ann 122 = { vs := [2, 4], keep := [(0, [(2, .v), (4, .v)])] } := by kernel_rfl
@[go_sem] theorem an123 : ann 123 = { vs := [2, 3] } := by kernel_rfl
@[go_sem] theorem an125 : ann 125 = { vs := [4, 5, 6, 7, 8, 9, 10, 11, 12, 13], keep := [(1, [(0, .v), (1, .v), (5, .v), (6, .v), (7, .v), (8, .v), (9, .v), (10, .v)])] } := by kernel_rfl
@[go_sem] theorem an128 : ann 128 = { vs := [2, 3, 4, 5, 6, 7, 8], keep := [(0, [(0, .v), (4, .v), (5, .v)]), (2, [(4, .v), (6, .v), (7, .v), (8, .v)])] } := by kernel_rfl
@[go_sem] theorem an129 : ann 129 = { vs := [10, 11] } := by kernel_rfl
@[go_sem] theorem an130 : ann 130 = { vs := [2, 3, 4, 5, 6, 7, 8, 9, 10, 11, 12] } := by kernel_rfl
@[go_sem] theorem an131 : ann 131 = { vs := [4] } := by kernel_rfl
@[go_sem] theorem an133 : ann 133 = { vs := [2] } := by kernel_rfl
@[go_sem] theorem an134 : ann 134 = { vs := [4, 5, 6, 7, 8, 9, 10], keep := [(0, [(0, .v), (1, .v), (5, .v), (6, .v), (7, .v), (8, .v), (9, .v)]), (2, [(0, .v), (1, .v), (5, .v), (6, .v), (7, .v), (8, .v), (10, .v)])] } := by kernel_rfl
@[go_sem] theorem an136 : ann 136 = { vs := [2, 3, 4, 5, 6, 7, 8], keep := [(0, [(0, .v), (4, .v), (5, .v)]), (2, [(4, .v), (6, .v), (7, .v), (8, .v)])] } := by kernel_rfl
@[go_sem] theorem an0 : ann 0 = {} := by kernel_rfl
@[go_sem] theorem an1 : ann 1 = {} := by kernel_rfl
@[go_sem] theorem an2 : ann 2 = {} := by kernel_rfl
@[go_sem] theorem an75 : ann 75 = {} := by kernel_rfl
@[go_sem] theorem an76 : ann 76 = {} := by kernel_rfl
@[go_sem] theorem an87 : ann 87 = {} := by kernel_rfl
@[go_sem] theorem an89 : ann 89 = {} := by kernel_rfl
@[go_sem] theorem an106 : ann 106 = {} := by kernel_rfl
@[go_sem] theorem an113 : ann 113 = {} := by kernel_rfl
@[go_sem] theorem an124 : ann 124 = {} := by kernel_rfl
@[go_sem] theorem an126 : ann 126 = {} := by kernel_rfl
@[go_sem] theorem an127 : ann 127 = {} := by kernel_rfl
@[go_sem] theorem an132 : ann 132 = {} := by kernel_rfl
@[go_sem] theorem an135 : ann 135 = {} := by kernel_rfl
@[go_sem] theorem an137 : ann 137 = {} := by kernel_rfl
@[go_sem] theorem an138 : ann 138 = {} := by kernel_rfl
@[go_sem] theorem an139 : ann 139 = {} := by kernel_rfl
@[go_sem] theorem an140 : ann 140 = {} := by kernel_rfl
@[go_sem] theorem an141 : ann 141 = {} := by kernel_rfl
@[go_sem] theorem an142 : ann 142 = {} := by kernel_rfl
@[go_sem] theorem an143 : ann 143 = {} := by kernel_rfl
@[go_sem] theorem an144 : ann 144 = {} := by kernel_rfl
@[go_sem] theorem an145 : ann 145 = {} := by kernel_rfl
@[go_sem] theorem an146 : ann 146 = {} := by kernel_rfl
@[go_sem] theorem an147 : ann 147 = {} := by kernel_rfl
@[go_sem] theorem an148 : ann 148 = {} := by kernel_rfl
@[go_sem] theorem an149 : ann 149 = {} := by kernel_rfl
@[go_sem] theorem an150 : ann 150 = {} := by kernel_rfl
@[go_sem] theorem an151 : ann 151 = {} := by kernel_rfl
@[go_sem] theorem an152 : ann 152 = {} := by kernel_rfl
@[go_sem] theorem an153 : ann 153 = {} := by kernel_rfl
@[go_sem] theorem an154 : ann 154 = {} := by kernel_rfl
@[go_sem] theorem an155 : ann 155 = {} := by kernel_rfl
@[go_sem] theorem an156 : ann 156 = {} := by kernel_rfl
@[go_sem] theorem an157 : ann 157 = {} := by kernel_rfl
@[go_sem] theorem an158 : ann 158 = {} := by kernel_rfl
@[go_sem] theorem re2 : Go.Proofs.Tryd.f2.results.toList = [] := rfl
@[go_sem] theorem re3 : Go.Proofs.Tryd.f3.results.toList = [.tmp 4] := rfl
@[go_sem] theorem re4 : Go.Proofs.Tryd.f4.results.toList = [.tmp 4] := rfl
@[go_sem] theorem re5 : Go.Proofs.Tryd.f5.results.toList = [.tmp 8] := rfl
@[go_sem] theorem re6 : Go.Proofs.Tryd.f6.results.toList = [.tmp 6] := rfl
@[go_sem] theorem re7 : Go.Proofs.Tryd.f7.results.toList = [.tmp 4] := rfl
@[go_sem] theorem re8 : Go.Proofs.Tryd.f8.results.toList = [.tmp 4, .tmp 5] := rfl
@[go_sem] theorem re9 : Go.Proofs.Tryd.f9.results.toList = [.tmp 2] := rfl
@[go_sem] theorem re10 : Go.Proofs.Tryd.f10.results.toList = [.tmp 4, .tmp 5] := rfl
@[go_sem] theorem re11 : Go.Proofs.Tryd.f11.results.toList = [.tmp 4] := rfl
@[go_sem] theorem re12 : Go.Proofs.Tryd.f12.results.toList = [.tmp 4] := rfl
@[go_sem] theorem re13 : Go.Proofs.Tryd.f13.results.toList = [.tmp 4] := rfl
@[go_sem] theorem re14 : Go.Proofs.Tryd.f14.results.toList = [.tmp 4, .tmp 5] := rfl
@[go_sem] theorem re15 : Go.Proofs.Tryd.f15.results.toList = [.tmp 4, .tmp 5] := rfl
@[go_sem] theorem re16 : Go.Proofs.Tryd.f16.results.toList = [.tmp 8, .tmp 9] := rfl
@[go_sem] theorem re17 : Go.Proofs.Tryd.f17.results.toList = [.tmp 8, .tmp 9] := rfl
@[go_sem] theorem re18 : Go.Proofs.Tryd.f18.results.toList = [.tmp 6, .tmp 7] := rfl
@[go_sem] theorem re19 : Go.Proofs.Tryd.f19.results.toList = [.tmp 6, .tmp 7] := rfl
@[go_sem] theorem re20 : Go.Proofs.Tryd.f20.results.toList = [.tmp 4] := rfl
@[go_sem] theorem re21 : Go.Proofs.Tryd.f21.results.toList = [.tmp 4] := rfl
@[go_sem] theorem re22 : Go.Proofs.Tryd.f22.results.toList = [.tmp 4, .tmp 5] := rfl
@[go_sem] theorem re23 : Go.Proofs.Tryd.f23.results.toList = [.cell 2 39] := rfl
@[go_sem] theorem re24 : Go.Proofs.Tryd.f24.results.toList = [.tmp 4] := rfl
@[go_sem] theorem re25 : Go.Proofs.Tryd.f25.results.toList = [.tmp 4, .tmp 5] := rfl
@[go_sem] theorem re26 : Go.Proofs.Tryd.f26.results.toList = [.tmp 6, .tmp 7] := rfl
@[go_sem] theorem re27 : Go.Proofs.Tryd.f27.results.toList = [.tmp 4] := rfl
@[go_sem] theorem re28 : Go.Proofs.Tryd.f28.results.toList = [.tmp 2] := rfl
@[go_sem] theorem re29 : Go.Proofs.Tryd.f29.results.toList = [.tmp 4, .tmp 5] := rfl
@[go_sem] theorem re30 : Go.Proofs.Tryd.f30.results.toList = [.tmp 4, .tmp 5] := rfl
@[go_sem] theorem re31 : Go.Proofs.Tryd.f31.results.toList = [.tmp 8, .tmp 9] := rfl
@[go_sem] theorem re32 : Go.Proofs.Tryd.f32.results.toList = [.tmp 2] := rfl
@[go_sem] theorem re33 : Go.Proofs.Tryd.f33.results.toList = [.tmp 8, .tmp 9] := rfl
@[go_sem] theorem re34 : Go.Proofs.Tryd.f34.results.toList = [.tmp 2] := rfl
@[go_sem] theorem re35 : Go.Proofs.Tryd.f35.results.toList = [.tmp 6, .tmp 7] := rfl
@[go_sem] theorem re36 : Go.Proofs.Tryd.f36.results.toList = [.tmp 6, .tmp 7] := rfl
@[go_sem] theorem re37 : Go.Proofs.Tryd.f37.results.toList = [.tmp 2] := rfl
@[go_sem] theorem re38 : Go.Proofs.Tryd.f38.results.toList = [.tmp 4] := rfl
@[go_sem] theorem re39 : Go.Proofs.Tryd.f39.results.toList = [.tmp 4] := rfl
@[go_sem] theorem re40 : Go.Proofs.Tryd.f40.results.toList = [.tmp 2] := rfl
@[go_sem] theorem re41 : Go.Proofs.Tryd.f41.results.toList = [.tmp 2] := rfl
@[go_sem] theorem re42 : Go.Proofs.Tryd.f42.results.toList = [.tmp 4] := rfl
@[go_sem] theorem re43 : Go.Proofs.Tryd.f43.results.toList = [.tmp 2] := rfl
@[go_sem] theorem re44 : Go.Proofs.Tryd.f44.results.toList = [.tmp 4, .tmp 5] := rfl
@[go_sem] theorem re45 : Go.Proofs.Tryd.f45.results.toList = [.tmp 4] := rfl
@[go_sem] theorem re46 : Go.Proofs.Tryd.f46.results.toList = [.tmp 3] := rfl
@[go_sem] theorem re47 : Go.Proofs.Tryd.f47.results.toList = [.tmp 4] := rfl
@[go_sem] theorem re48 : Go.Proofs.Tryd.f48.results.toList = [.tmp 6] := rfl
@[go_sem] theorem re49 : Go.Proofs.Tryd.f49.results.toList = [.tmp 2] := rfl
@[go_sem] theorem re50 : Go.Proofs.Tryd.f50.results.toList = [.tmp 4] := rfl
@[go_sem] theorem re51 : Go.Proofs.Tryd.f51.results.toList = [.tmp 4] := rfl
@[go_sem] theorem re52 : Go.Proofs.Tryd.f52.results.toList = [.tmp 4] := rfl
@[go_sem] theorem re53 : Go.Proofs.Tryd.f53.results.toList = [.tmp 6] := rfl
@[go_sem] theorem re54 : Go.Proofs.Tryd.f54.results.toList = [.tmp 4] := rfl
@[go_sem] theorem re55 : Go.Proofs.Tryd.f55.results.toList = [.tmp 2] := rfl
@[go_sem] theorem re56 : Go.Proofs.Tryd.f56.results.toList = [.tmp 6] := rfl
@[go_sem] theorem re57 : Go.Proofs.Tryd.f57.results.toList = [.tmp 4] := rfl
@[go_sem] theorem re58 : Go.Proofs.Tryd.f58.results.toList = [.tmp 4] := rfl
@[go_sem] theorem re59 : Go.Proofs.Tryd.f59.results.toList = [.tmp 2] := rfl
@[go_sem] theorem re60 : Go.Proofs.Tryd.f60.results.toList = [.tmp 4] := rfl
@[go_sem] theorem re61 : Go.Proofs.Tryd.f61.results.toList = [.tmp 2] := rfl
@[go_sem] theorem re62 : Go.Proofs.Tryd.f62.results.toList = [.tmp 4] := rfl
@[go_sem] theorem re63 : Go.Proofs.Tryd.f63.results.toList = [] := rfl
@[go_sem] theorem re64 : Go.Proofs.Tryd.f64.results.toList = [.tmp 4] := rfl
@[go_sem] theorem re65 : Go.Proofs.Tryd.f65.results.toList = [.tmp 4] := rfl
@[go_sem] theorem re66 : Go.Proofs.Tryd.f66.results.toList = [.tmp 4] := rfl
@[go_sem] theorem re67 : Go.Proofs.Tryd.f67.results.toList = [.tmp 3] := rfl
@[go_sem] theorem re68 : Go.Proofs.Tryd.f68.results.toList = [.tmp 3] := rfl
@[go_sem] theorem re69 : Go.Proofs.Tryd.f69.results.toList = [.tmp 4] := rfl
@[go_sem] theorem re70 : Go.Proofs.Tryd.f70.results.toList = [.tmp 2] := rfl
@[go_sem] theorem re71 : Go.Proofs.Tryd.f71.results.toList = [.tmp 6, .tmp 7] := rfl
@[go_sem] theorem re72 : Go.Proofs.Tryd.f72.results.toList = [.tmp 4] := rfl
@[go_sem] theorem re73 : Go.Proofs.Tryd.f73.results.toList = [.tmp 4] := rfl
@[go_sem] theorem re74 : Go.Proofs.Tryd.f74.results.toList = [.tmp 4] := rfl
@[go_sem] theorem re76 : Go.Proofs.Tryd.f76.results.toList = [] := rfl
@[go_sem] theorem re77 : Go.Proofs.Tryd.f77.results.toList = [.tmp 4] := rfl
@[go_sem] theorem re78 : Go.Proofs.Tryd.f78.results.toList = [.tmp 4] := rfl
@[go_sem] theorem re79 : Go.Proofs.Tryd.f79.results.toList = [.tmp 2] := rfl
@[go_sem] theorem re80 : Go.Proofs.Tryd.f80.results.toList = [.tmp 2] := rfl
@[go_sem] theorem re81 : Go.Proofs.Tryd.f81.results.toList = [] := rfl
@[go_sem] theorem re82 : Go.Proofs.Tryd.f82.results.toList = [.tmp 2] := rfl
@[go_sem] theorem re83 : Go.Proofs.Tryd.f83.results.toList = [.tmp 4] := rfl
@[go_sem] theorem re84 : Go.Proofs.Tryd.f84.results.toList = [.tmp 3] := rfl
@[go_sem] theorem re85 : Go.Proofs.Tryd.f85.results.toList = [.tmp 8] := rfl
@[go_sem] theorem re86 : Go.Proofs.Tryd.f86.results.toList = [.tmp 4] := rfl
@[go_sem] theorem re87 : Go.Proofs.Tryd.f87.results.toList = [] := rfl
@[go_sem] theorem re88 : Go.Proofs.Tryd.f88.results.toList = [.tmp 4, .tmp 5] := rfl
@[go_sem] theorem re89 : Go.Proofs.Tryd.f89.results.toList = [] := rfl
@[go_sem] theorem re90 : Go.Proofs.Tryd.f90.results.toList = [.tmp 4, .tmp 5] := rfl
@[go_sem] theorem re91 : Go.Proofs.Tryd.f91.results.toList = [.tmp 2] := rfl
@[go_sem] theorem re92 : Go.Proofs.Tryd.f92.results.toList = [.tmp 2] := rfl
@[go_sem] theorem re93 : Go.Proofs.Tryd.f93.results.toList = [.tmp 2] := rfl
@[go_sem] theorem re94 : Go.Proofs.Tryd.f94.results.toList = [.tmp 2] := rfl
@[go_sem] theorem re95 : Go.Proofs.Tryd.f95.results.toList = [.tmp 4] := rfl
@[go_sem] theorem re96 : Go.Proofs.Tryd.f96.results.toList = [] := rfl
@[go_sem] theorem re97 : Go.Proofs.Tryd.f97.results.toList = [] := rfl
@[go_sem] theorem re98 : Go.Proofs.Tryd.f98.results.toList = [] := rfl
@[go_sem] theorem re99 : Go.Proofs.Tryd.f99.results.toList = [.tmp 8, .tmp 9] := rfl
@[go_sem] theorem re100 : Go.Proofs.Tryd.f100.results.toList = [] := rfl
@[go_sem] theorem re101 : Go.Proofs.Tryd.f101.results.toList = [.tmp 8] := rfl
@[go_sem] theorem re102 : Go.Proofs.Tryd.f102.results.toList = [.tmp 10] := rfl
@[go_sem] theorem re103 : Go.Proofs.Tryd.f103.results.toList = [.tmp 10, .tmp 11] := rfl
@[go_sem] theorem re104 : Go.Proofs.Tryd.f104.results.toList = [.tmp 2] := rfl
@[go_sem] theorem re105 : Go.Proofs.Tryd.f105.results.toList = [.tmp 2] := rfl
@[go_sem] theorem re107 : Go.Proofs.Tryd.f107.results.toList = [.tmp 4] := rfl
@[go_sem] theorem re108 : Go.Proofs.Tryd.f108.results.toList = [.tmp 4] := rfl
@[go_sem] theorem re109 : Go.Proofs.Tryd.f109.results.toList = [.tmp 4] := rfl
@[go_sem] theorem re110 : Go.Proofs.Tryd.f110.results.toList = [] := rfl
@[go_sem] theorem re111 : Go.Proofs.Tryd.f111.results.toList = [.tmp 4, .tmp 5] := rfl
@[go_sem] theorem re112 : Go.Proofs.Tryd.f112.results.toList = [.tmp 4, .tmp 5] := rfl
@[go_sem] theorem re113 : Go.Proofs.Tryd.f113.results.toList = [] := rfl
@[go_sem] theorem re114 : Go.Proofs.Tryd.f114.results.toList = [] := rfl
@[go_sem] theorem re115 : Go.Proofs.Tryd.f115.results.toList = [.tmp 4] := rfl
@[go_sem] theorem re116 : Go.Proofs.Tryd.f116.results.toList = [.tmp 4] := rfl
@[go_sem] theorem re117 : Go.Proofs.Tryd.f117.results.toList = [] := rfl
@[go_sem] theorem re118 : Go.Proofs.Tryd.f118.results.toList = [.tmp 2] := rfl
@[go_sem] theorem re119 : Go.Proofs.Tryd.f119.results.toList = [.tmp 2] := rfl
@[go_sem] theorem re120 : Go.Proofs.Tryd.f120.results.toList = [.tmp 8] := rfl
@[go_sem] theorem re121 : Go.Proofs.Tryd.f121.results.toList = [.tmp 12] := rfl
@[go_sem] theorem re122 : Go.Proofs.Tryd.f122.results.toList = [.tmp 2] := rfl
@[go_sem] theorem re123 : Go.Proofs.Tryd.f123.results.toList = [.tmp 2, .tmp 3] := rfl
@[go_sem] theorem re125 : Go.Proofs.Tryd.f125.results.toList = [.tmp 4] := rfl
@[go_sem] theorem re128 : Go.Proofs.Tryd.f128.results.toList = [.tmp 2, .tmp 3] := rfl
@[go_sem] theorem re129 : Go.Proofs.Tryd.f129.results.toList = [.tmp 10, .tmp 11] := rfl
@[go_sem] theorem re130 : Go.Proofs.Tryd.f130.results.toList = [.tmp 2, .tmp 3] := rfl
@[go_sem] theorem re131 : Go.Proofs.Tryd.f131.results.toList = [.tmp 4] := rfl
@[go_sem] theorem re133 : Go.Proofs.Tryd.f133.results.toList = [.tmp 2] := rfl
@[go_sem] theorem re134 : Go.Proofs.Tryd.f134.results.toList = [.tmp 4] := rfl
@[go_sem] theorem re136 : Go.Proofs.Tryd.f136.results.toList = [.tmp 2, .tmp 3] := rfl
@[go_sem] theorem re158 : Go.Proofs.Tryd.f158.results.toList = [] := rfl
end Go.Proofs.YtcdojakgoogonaaDoor.Ev
