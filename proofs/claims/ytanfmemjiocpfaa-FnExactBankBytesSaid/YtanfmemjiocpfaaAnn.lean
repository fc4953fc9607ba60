/- Annotations of the functions, and facts of types, by gen.py. No condition. -/
import Derived.Test.YtanfmemjiocpfaaEvStep
import Derived.Test.YtanfmemjiocpfaaEvCore
import Derived.Test.YtanfmemjiocpfaaProg
namespace Go.Proofs.Ytanfmemjiocpfaa.Ev
open Go
def annL : List (Nat × Ann) := [
  (3, { vs := [1, 2, 3, 4, 5, 6] }),
  (4, { vs := [2, 4, 5, 6, 7, 8, 9, 10] }),
  (5, { vs := [1, 2, 3, 4, 5, 6, 7, 8, 9, 10, 11, 12, 13] }),
  (6, { vs := [8, 9, 10, 11, 12] }),
  (7, { vs := [6, 7, 8, 9, 10] }),
  (8, { vs := [2, 4] }),
  (9, { vs := [1, 2, 3, 4, 5, 6], keep := [(0, [(1, .v), (3, .v)]), (2, [(1, .v), (5, .v)])] }),
  (10, { vs := [1, 2, 3] }),
  (11, { vs := [1, 2] }),
  (12, { vs := [2, 3, 4] }),
  (13, { vs := [2, 4, 5, 6] }),
  (14, { vs := [2, 4, 5, 6, 7] }),
  (15, { vs := [2, 3, 4] }),
  (16, { vs := [1, 2, 3] }),
  (17, { vs := [1, 2, 3] }),
  (18, { vs := [4, 5], keep := [(0, [(0, .v), (1, .v), (5, .v)])] }),
  (19, { vs := [2, 4], modes := [.l] }),
  (20, { vs := [4, 5], keep := [(0, [(0, .v), (1, .v), (5, .v)])], modes := [.l] }),
  (21, { vs := [4, 5], keep := [(0, [(0, .v), (1, .v), (5, .v)])] }),
  (22, { vs := [8, 9] }),
  (23, { vs := [8, 9] }),
  (24, { vs := [6, 7] }),
  (25, { vs := [6, 7] }),
  (26, { vs := [4, 5], keep := [(0, [(0, .v), (1, .v), (5, .v)])] }),
  (27, { vs := [4] }),
  (28, { vs := [1, 2] }),
  (29, { vs := [6] }),
  (30, { vs := [2, 3, 4], keep := [(0, [(0, .v), (3, .v), (4, .v)])] }),
  (31, { vs := [2, 3, 4], keep := [(0, [(0, .v), (3, .v), (4, .v)])] }),
  (32, { vs := [3, 4] }),
  (33, { vs := [1, 2] }),
  (34, { vs := [4, 5], keep := [(0, [(0, .v), (1, .v), (5, .v)])] }),
  (35, { vs := [1, 2] }),
  (36, { vs := [3, 4] }),
  (37, { vs := [1, 2] }),
  (38, { vs := [4, 5], keep := [(0, [(0, .v), (1, .v), (5, .v)])] }),
  (39, { vs := [1, 2] }),
  (40, { vs := [4, 5], keep := [(0, [(0, .v), (1, .v), (5, .v)])] }),
  (41, { vs := [4, 5], keep := [(0, [(0, .v), (1, .v), (5, .v)])] }),
  (42, { vs := [2, 4, 5], keep := [(0, [(1, .v), (2, .v), (5, .v)])] }),
  (43, { vs := [2, 4, 5] }),
  (44, { vs := [1, 2, 3, 4, 5, 6, 7], keep := [(0, [(1, .v), (3, .o 1 true), (4, .v)]), (2, [(1, .v), (3, .o 1 true), (6, .v)]), (1000006, []), (1000013, []), (1000014, [])] }),
  (45, { vs := [1, 2, 3, 5, 7, 13, 14, 15, 39, 40, 41], keep := [(0, [(1, .v), (3, .v), (13, .v), (14, .v), (15, .v)]), (2, [(3, .v), (39, .v), (40, .v), (41, .v)])] }),
  (46, { vs := [4, 5], keep := [(0, [(0, .v), (1, .v), (5, .v)])], modes := [.l] }),
  (47, { vs := [4, 5], keep := [(0, [(0, .v), (1, .v), (5, .v)])], modes := [.l] }),
  (48, { vs := [8] }),
  (49, { vs := [2] }),
  (50, { vs := [2] }),
  (51, { vs := [2] }),
  (52, { vs := [4] }),
  (53, { vs := [4, 5, 6], keep := [(0, [(0, .v), (5, .v), (6, .v)])] }),
  (54, { vs := [6] }),
  (55, { vs := [2] }),
  (56, { vs := [6] }),
  (57, { vs := [2, 4] }),
  (58, { vs := [1, 2, 3] }),
  (59, { vs := [1, 2, 3] }),
  (60, { vs := [4] }),
  (61, { vs := [2, 3] }),
  (62, { vs := [6] }),
  (63, { vs := [4] }),
  (64, { vs := [2, 3] }),
  (65, { vs := [2] }),
  (66, { vs := [2, 3, 4] }),
  (67, { vs := [6, 7, 8, 9, 10, 11], keep := [(0, [(0, .v), (1, .v), (2, .v), (8, .v), (9, .v), (10, .v)])] }),
  (68, { vs := [2, 4] }),
  (69, { vs := [4, 5, 6] }),
  (70, { vs := [2] }),
  (71, { vs := [2] }),
  (72, { vs := [2, 3], keep := [(0, [(0, .v), (3, .v)])] }),
  (73, { vs := [4, 5, 6, 7, 8], keep := [(0, [(0, .v), (1, .v), (5, .v), (6, .v), (7, .v)])] }),
  (74, { vs := [4] }),
  (75, { vs := [2] }),
  (76, { vs := [2, 3, 4, 5, 6, 7, 9, 38, 39], keep := [(0, [(0, .v), (3, .o 1 true), (6, .v)]), (4, [(7, .v), (38, .v), (39, .v)])] }),
  (77, { vs := [4, 5, 6, 12, 13], keep := [(0, [(1, .v), (5, .v), (12, .v), (13, .v)])] }),
  (78, { vs := [4, 5, 7, 8], keep := [(0, [(0, .v), (1, .v), (7, .v), (8, .v)])] }),
  (79, { vs := [4, 5, 7, 8], keep := [(0, [(0, .v), (1, .v), (7, .v), (8, .v)])] }),
  (80, { vs := [2] }),
  (81, { vs := [2, 3, 4, 5, 6, 7, 8, 9], keep := [(0, [(0, .v), (3, .v), (4, .o 1 true)]), (2, [(0, .v), (3, .v), (4, .o 1 true), (5, .v)]), (4, [(3, .v), (4, .v), (6, .v), (7, .v)]), (6, [(3, .v), (8, .o 1 true), (9, .v)])] }),
  (82, { vs := [4, 5, 7, 8], keep := [(0, [(0, .v), (1, .v), (7, .v), (8, .v)])] }),
  (83, { vs := [0] }),
  (84, { vs := [2, 3, 4] }),
  (85, { vs := [3, 4, 5, 6, 7, 8, 9, 10, 11, 12, 13, 15, 95], keep := [(0, [(3, .v), (4, .v), (5, .v), (6, .v), (7, .v), (15, .v)]), (2, [(3, .v), (6, .v), (7, .v), (95, .v)])] }),
  (86, { vs := [2, 3, 4, 6, 7, 8, 9, 10, 11, 22, 23, 24], keep := [(0, [(0, .v), (2, .v), (3, .v), (11, .v)]), (2, [(0, .v), (2, .v), (3, .v), (4, .v), (11, .v), (22, .v), (23, .v), (24, .v)])] }),
  (87, { vs := [0] }),
  (88, { vs := [6, 7, 8, 9, 10, 11, 12, 13, 14, 15, 16, 17], keep := [(0, [(0, .v), (1, .v), (2, .v), (6, .v), (7, .v)]), (2, [(0, .v), (2, .v), (6, .v), (8, .v)]), (4, [(0, .v), (2, .v), (6, .v), (11, .o 1 true), (12, .v)]), (6, [(0, .v), (11, .v), (17, .v)])] }),
  (89, { vs := [4, 5], keep := [(0, [(0, .v), (1, .v), (2, .v), (4, .v)])] }),
  (90, { vs := [4] }),
  (91, { vs := [4] }),
  (92, { vs := [4, 5] })]
def annOf : List (Nat × Ann) → Nat → Ann
  | [], _ => {}
  | (k, a) :: l, f => if k = f then a else annOf l f
def ann (f : FuncId) : Ann := annOf annL f
@[go_sem] theorem ty3 : tyOf Go.Proofs.Try.prog 3 = .int .i64 := by kernel_rfl
@[go_sem] theorem sz3 : szOf Go.Proofs.Try.prog 3 = 1 := by kernel_rfl
@[go_sem] theorem by3 : byOf Go.Proofs.Try.prog 3 = 8 := by kernel_rfl
@[go_sem] theorem kn3 : known Go.Proofs.Try.prog 3 = true := by kernel_rfl
@[go_sem] theorem zk3 : zeroOk Go.Proofs.Try.prog 3 = true := by kernel_rfl
@[go_sem] theorem ze3 : zeOf Go.Proofs.Try.prog 3 = .int .i64 0 := by kernel_rfl
@[go_sem] theorem ty4 : tyOf Go.Proofs.Try.prog 4 = .bool := by kernel_rfl
@[go_sem] theorem sz4 : szOf Go.Proofs.Try.prog 4 = 1 := by kernel_rfl
@[go_sem] theorem by4 : byOf Go.Proofs.Try.prog 4 = 1 := by kernel_rfl
@[go_sem] theorem kn4 : known Go.Proofs.Try.prog 4 = true := by kernel_rfl
@[go_sem] theorem zk4 : zeroOk Go.Proofs.Try.prog 4 = true := by kernel_rfl
@[go_sem] theorem ze4 : zeOf Go.Proofs.Try.prog 4 = .bool false := by kernel_rfl
@[go_sem] theorem ty5 : tyOf Go.Proofs.Try.prog 5 = .int .u8 := by kernel_rfl
@[go_sem] theorem sz5 : szOf Go.Proofs.Try.prog 5 = 1 := by kernel_rfl
@[go_sem] theorem by5 : byOf Go.Proofs.Try.prog 5 = 1 := by kernel_rfl
@[go_sem] theorem kn5 : known Go.Proofs.Try.prog 5 = true := by kernel_rfl
@[go_sem] theorem zk5 : zeroOk Go.Proofs.Try.prog 5 = true := by kernel_rfl
@[go_sem] theorem ze5 : zeOf Go.Proofs.Try.prog 5 = .int .u8 0 := by kernel_rfl
@[go_sem] theorem ty9 : tyOf Go.Proofs.Try.prog 9 = .str := by kernel_rfl
@[go_sem] theorem sz9 : szOf Go.Proofs.Try.prog 9 = 1 := by kernel_rfl
@[go_sem] theorem by9 : byOf Go.Proofs.Try.prog 9 = 16 := by kernel_rfl
@[go_sem] theorem kn9 : known Go.Proofs.Try.prog 9 = true := by kernel_rfl
@[go_sem] theorem zk9 : zeroOk Go.Proofs.Try.prog 9 = true := by kernel_rfl
@[go_sem] theorem ze9 : zeOf Go.Proofs.Try.prog 9 = .str [] := by kernel_rfl
@[go_sem] theorem ty22 : tyOf Go.Proofs.Try.prog 22 = .slice 82 := by kernel_rfl
@[go_sem] theorem sz22 : szOf Go.Proofs.Try.prog 22 = 1 := by kernel_rfl
@[go_sem] theorem by22 : byOf Go.Proofs.Try.prog 22 = 24 := by kernel_rfl
@[go_sem] theorem kn22 : known Go.Proofs.Try.prog 22 = true := by kernel_rfl
@[go_sem] theorem zk22 : zeroOk Go.Proofs.Try.prog 22 = true := by kernel_rfl
@[go_sem] theorem ze22 : zeOf Go.Proofs.Try.prog 22 = .nils := by kernel_rfl
@[go_sem] theorem ty23 : tyOf Go.Proofs.Try.prog 23 = .slice 85 := by kernel_rfl
@[go_sem] theorem sz23 : szOf Go.Proofs.Try.prog 23 = 1 := by kernel_rfl
@[go_sem] theorem by23 : byOf Go.Proofs.Try.prog 23 = 24 := by kernel_rfl
@[go_sem] theorem kn23 : known Go.Proofs.Try.prog 23 = true := by kernel_rfl
@[go_sem] theorem zk23 : zeroOk Go.Proofs.Try.prog 23 = true := by kernel_rfl
@[go_sem] theorem ze23 : zeOf Go.Proofs.Try.prog 23 = .nils := by kernel_rfl
@[go_sem] theorem ty25 : tyOf Go.Proofs.Try.prog 25 = .strct [(0, 22), (1, 23)] := by kernel_rfl
@[go_sem] theorem sz25 : szOf Go.Proofs.Try.prog 25 = 2 := by kernel_rfl
@[go_sem] theorem by25 : byOf Go.Proofs.Try.prog 25 = 48 := by kernel_rfl
@[go_sem] theorem kn25 : known Go.Proofs.Try.prog 25 = true := by kernel_rfl
@[go_sem] theorem zk25 : zeroOk Go.Proofs.Try.prog 25 = true := by kernel_rfl
@[go_sem] theorem ze25 : zeOf Go.Proofs.Try.prog 25 = .agg [.nils, .nils] := by kernel_rfl
@[go_sem] theorem fl25_0 : fldOf Go.Proofs.Try.prog 25 0 = some (0, 1, false) := by kernel_rfl
@[go_sem] theorem fl25_1 : fldOf Go.Proofs.Try.prog 25 1 = some (1, 1, false) := by kernel_rfl
@[go_sem] theorem ft25 : flatTy Go.Proofs.Try.prog 25 = false := by kernel_rfl
@[go_sem] theorem ty28 : tyOf Go.Proofs.Try.prog 28 = .slice 36 := by kernel_rfl
@[go_sem] theorem sz28 : szOf Go.Proofs.Try.prog 28 = 1 := by kernel_rfl
@[go_sem] theorem by28 : byOf Go.Proofs.Try.prog 28 = 24 := by kernel_rfl
@[go_sem] theorem kn28 : known Go.Proofs.Try.prog 28 = true := by kernel_rfl
@[go_sem] theorem zk28 : zeroOk Go.Proofs.Try.prog 28 = true := by kernel_rfl
@[go_sem] theorem ze28 : zeOf Go.Proofs.Try.prog 28 = .nils := by kernel_rfl
@[go_sem] theorem ty29 : tyOf Go.Proofs.Try.prog 29 = .slice 56 := by kernel_rfl
@[go_sem] theorem sz29 : szOf Go.Proofs.Try.prog 29 = 1 := by kernel_rfl
@[go_sem] theorem by29 : byOf Go.Proofs.Try.prog 29 = 24 := by kernel_rfl
@[go_sem] theorem kn29 : known Go.Proofs.Try.prog 29 = true := by kernel_rfl
@[go_sem] theorem zk29 : zeroOk Go.Proofs.Try.prog 29 = true := by kernel_rfl
@[go_sem] theorem ze29 : zeOf Go.Proofs.Try.prog 29 = .nils := by kernel_rfl
@[go_sem] theorem ty31 : tyOf Go.Proofs.Try.prog 31 = .strct [(0, 28), (1, 29)] := by kernel_rfl
@[go_sem] theorem sz31 : szOf Go.Proofs.Try.prog 31 = 2 := by kernel_rfl
@[go_sem] theorem by31 : byOf Go.Proofs.Try.prog 31 = 48 := by kernel_rfl
@[go_sem] theorem kn31 : known Go.Proofs.Try.prog 31 = true := by kernel_rfl
@[go_sem] theorem zk31 : zeroOk Go.Proofs.Try.prog 31 = true := by kernel_rfl
@[go_sem] theorem ze31 : zeOf Go.Proofs.Try.prog 31 = .agg [.nils, .nils] := by kernel_rfl
@[go_sem] theorem fl31_0 : fldOf Go.Proofs.Try.prog 31 0 = some (0, 1, false) := by kernel_rfl
@[go_sem] theorem fl31_1 : fldOf Go.Proofs.Try.prog 31 1 = some (1, 1, false) := by kernel_rfl
@[go_sem] theorem ft31 : flatTy Go.Proofs.Try.prog 31 = false := by kernel_rfl
@[go_sem] theorem ty36 : tyOf Go.Proofs.Try.prog 36 = .strct [(0, 3), (1, 3), (2, 9)] := by kernel_rfl
@[go_sem] theorem sz36 : szOf Go.Proofs.Try.prog 36 = 3 := by kernel_rfl
@[go_sem] theorem by36 : byOf Go.Proofs.Try.prog 36 = 32 := by kernel_rfl
@[go_sem] theorem kn36 : known Go.Proofs.Try.prog 36 = true := by kernel_rfl
@[go_sem] theorem zk36 : zeroOk Go.Proofs.Try.prog 36 = true := by kernel_rfl
@[go_sem] theorem ze36 : zeOf Go.Proofs.Try.prog 36 = .agg [.int .i64 0, .int .i64 0, .str []] := by kernel_rfl
@[go_sem] theorem fl36_0 : fldOf Go.Proofs.Try.prog 36 0 = some (0, 1, false) := by kernel_rfl
@[go_sem] theorem fl36_1 : fldOf Go.Proofs.Try.prog 36 1 = some (1, 1, false) := by kernel_rfl
@[go_sem] theorem fl36_2 : fldOf Go.Proofs.Try.prog 36 2 = some (2, 1, false) := by kernel_rfl
@[go_sem] theorem ft36 : flatTy Go.Proofs.Try.prog 36 = true := by kernel_rfl
@[go_sem] theorem ty41 : tyOf Go.Proofs.Try.prog 41 = .slice 5 := by kernel_rfl
@[go_sem] theorem sz41 : szOf Go.Proofs.Try.prog 41 = 1 := by kernel_rfl
@[go_sem] theorem by41 : byOf Go.Proofs.Try.prog 41 = 24 := by kernel_rfl
@[go_sem] theorem kn41 : known Go.Proofs.Try.prog 41 = true := by kernel_rfl
@[go_sem] theorem zk41 : zeroOk Go.Proofs.Try.prog 41 = true := by kernel_rfl
@[go_sem] theorem ze41 : zeOf Go.Proofs.Try.prog 41 = .nils := by kernel_rfl
@[go_sem] theorem ty54 : tyOf Go.Proofs.Try.prog 54 = .func := by kernel_rfl
@[go_sem] theorem sz54 : szOf Go.Proofs.Try.prog 54 = 1 := by kernel_rfl
@[go_sem] theorem by54 : byOf Go.Proofs.Try.prog 54 = 8 := by kernel_rfl
@[go_sem] theorem kn54 : known Go.Proofs.Try.prog 54 = true := by kernel_rfl
@[go_sem] theorem zk54 : zeroOk Go.Proofs.Try.prog 54 = true := by kernel_rfl
@[go_sem] theorem ze54 : zeOf Go.Proofs.Try.prog 54 = .nilf := by kernel_rfl
@[go_sem] theorem ty56 : tyOf Go.Proofs.Try.prog 56 = .strct [(0, 3), (1, 3), (2, 3), (3, 3)] := by kernel_rfl
@[go_sem] theorem sz56 : szOf Go.Proofs.Try.prog 56 = 4 := by kernel_rfl
@[go_sem] theorem by56 : byOf Go.Proofs.Try.prog 56 = 32 := by kernel_rfl
@[go_sem] theorem kn56 : known Go.Proofs.Try.prog 56 = true := by kernel_rfl
@[go_sem] theorem zk56 : zeroOk Go.Proofs.Try.prog 56 = true := by kernel_rfl
@[go_sem] theorem ze56 : zeOf Go.Proofs.Try.prog 56 = .agg [.int .i64 0, .int .i64 0, .int .i64 0, .int .i64 0] := by kernel_rfl
@[go_sem] theorem fl56_0 : fldOf Go.Proofs.Try.prog 56 0 = some (0, 1, false) := by kernel_rfl
@[go_sem] theorem fl56_1 : fldOf Go.Proofs.Try.prog 56 1 = some (1, 1, false) := by kernel_rfl
@[go_sem] theorem fl56_2 : fldOf Go.Proofs.Try.prog 56 2 = some (2, 1, false) := by kernel_rfl
@[go_sem] theorem fl56_3 : fldOf Go.Proofs.Try.prog 56 3 = some (3, 1, false) := by kernel_rfl
@[go_sem] theorem ft56 : flatTy Go.Proofs.Try.prog 56 = true := by kernel_rfl
@[go_sem] theorem ty62 : tyOf Go.Proofs.Try.prog 62 = .func := by kernel_rfl
@[go_sem] theorem sz62 : szOf Go.Proofs.Try.prog 62 = 1 := by kernel_rfl
@[go_sem] theorem by62 : byOf Go.Proofs.Try.prog 62 = 8 := by kernel_rfl
@[go_sem] theorem kn62 : known Go.Proofs.Try.prog 62 = true := by kernel_rfl
@[go_sem] theorem zk62 : zeroOk Go.Proofs.Try.prog 62 = true := by kernel_rfl
@[go_sem] theorem ze62 : zeOf Go.Proofs.Try.prog 62 = .nilf := by kernel_rfl
@[go_sem] theorem ty64 : tyOf Go.Proofs.Try.prog 64 = .func := by kernel_rfl
@[go_sem] theorem sz64 : szOf Go.Proofs.Try.prog 64 = 1 := by kernel_rfl
@[go_sem] theorem by64 : byOf Go.Proofs.Try.prog 64 = 8 := by kernel_rfl
@[go_sem] theorem kn64 : known Go.Proofs.Try.prog 64 = true := by kernel_rfl
@[go_sem] theorem zk64 : zeroOk Go.Proofs.Try.prog 64 = true := by kernel_rfl
@[go_sem] theorem ze64 : zeOf Go.Proofs.Try.prog 64 = .nilf := by kernel_rfl
@[go_sem] theorem ty66 : tyOf Go.Proofs.Try.prog 66 = .func := by kernel_rfl
@[go_sem] theorem sz66 : szOf Go.Proofs.Try.prog 66 = 1 := by kernel_rfl
@[go_sem] theorem by66 : byOf Go.Proofs.Try.prog 66 = 8 := by kernel_rfl
@[go_sem] theorem kn66 : known Go.Proofs.Try.prog 66 = true := by kernel_rfl
@[go_sem] theorem zk66 : zeroOk Go.Proofs.Try.prog 66 = true := by kernel_rfl
@[go_sem] theorem ze66 : zeOf Go.Proofs.Try.prog 66 = .nilf := by kernel_rfl
@[go_sem] theorem ty82 : tyOf Go.Proofs.Try.prog 82 = .strct [(0, 3), (1, 3), (2, 9)] := by kernel_rfl
@[go_sem] theorem sz82 : szOf Go.Proofs.Try.prog 82 = 3 := by kernel_rfl
@[go_sem] theorem by82 : byOf Go.Proofs.Try.prog 82 = 32 := by kernel_rfl
@[go_sem] theorem kn82 : known Go.Proofs.Try.prog 82 = true := by kernel_rfl
@[go_sem] theorem zk82 : zeroOk Go.Proofs.Try.prog 82 = true := by kernel_rfl
@[go_sem] theorem ze82 : zeOf Go.Proofs.Try.prog 82 = .agg [.int .i64 0, .int .i64 0, .str []] := by kernel_rfl
@[go_sem] theorem fl82_0 : fldOf Go.Proofs.Try.prog 82 0 = some (0, 1, false) := by kernel_rfl
@[go_sem] theorem fl82_1 : fldOf Go.Proofs.Try.prog 82 1 = some (1, 1, false) := by kernel_rfl
@[go_sem] theorem fl82_2 : fldOf Go.Proofs.Try.prog 82 2 = some (2, 1, false) := by kernel_rfl
@[go_sem] theorem ft82 : flatTy Go.Proofs.Try.prog 82 = true := by kernel_rfl
@[go_sem] theorem ty85 : tyOf Go.Proofs.Try.prog 85 = .strct [(0, 3), (1, 3), (2, 3), (3, 3)] := by kernel_rfl
@[go_sem] theorem sz85 : szOf Go.Proofs.Try.prog 85 = 4 := by kernel_rfl
@[go_sem] theorem by85 : byOf Go.Proofs.Try.prog 85 = 32 := by kernel_rfl
@[go_sem] theorem kn85 : known Go.Proofs.Try.prog 85 = true := by kernel_rfl
@[go_sem] theorem zk85 : zeroOk Go.Proofs.Try.prog 85 = true := by kernel_rfl
@[go_sem] theorem ze85 : zeOf Go.Proofs.Try.prog 85 = .agg [.int .i64 0, .int .i64 0, .int .i64 0, .int .i64 0] := by kernel_rfl
@[go_sem] theorem fl85_0 : fldOf Go.Proofs.Try.prog 85 0 = some (0, 1, false) := by kernel_rfl
@[go_sem] theorem fl85_1 : fldOf Go.Proofs.Try.prog 85 1 = some (1, 1, false) := by kernel_rfl
@[go_sem] theorem fl85_2 : fldOf Go.Proofs.Try.prog 85 2 = some (2, 1, false) := by kernel_rfl
@[go_sem] theorem fl85_3 : fldOf Go.Proofs.Try.prog 85 3 = some (3, 1, false) := by kernel_rfl
@[go_sem] theorem ft85 : flatTy Go.Proofs.Try.prog 85 = true := by kernel_rfl
@[go_sem] theorem ty89 : tyOf Go.Proofs.Try.prog 89 = .func := by kernel_rfl
@[go_sem] theorem sz89 : szOf Go.Proofs.Try.prog 89 = 1 := by kernel_rfl
@[go_sem] theorem by89 : byOf Go.Proofs.Try.prog 89 = 8 := by kernel_rfl
@[go_sem] theorem kn89 : known Go.Proofs.Try.prog 89 = true := by kernel_rfl
@[go_sem] theorem zk89 : zeroOk Go.Proofs.Try.prog 89 = true := by kernel_rfl
@[go_sem] theorem ze89 : zeOf Go.Proofs.Try.prog 89 = .nilf := by kernel_rfl
@[go_sem] theorem ty93 : tyOf Go.Proofs.Try.prog 93 = .slice 9 := by kernel_rfl
@[go_sem] theorem sz93 : szOf Go.Proofs.Try.prog 93 = 1 := by kernel_rfl
@[go_sem] theorem by93 : byOf Go.Proofs.Try.prog 93 = 24 := by kernel_rfl
@[go_sem] theorem kn93 : known Go.Proofs.Try.prog 93 = true := by kernel_rfl
@[go_sem] theorem zk93 : zeroOk Go.Proofs.Try.prog 93 = true := by kernel_rfl
@[go_sem] theorem ze93 : zeOf Go.Proofs.Try.prog 93 = .nils := by kernel_rfl
@[go_sem] theorem ty95 : tyOf Go.Proofs.Try.prog 95 = .func := by kernel_rfl
@[go_sem] theorem sz95 : szOf Go.Proofs.Try.prog 95 = 1 := by kernel_rfl
@[go_sem] theorem by95 : byOf Go.Proofs.Try.prog 95 = 8 := by kernel_rfl
@[go_sem] theorem kn95 : known Go.Proofs.Try.prog 95 = true := by kernel_rfl
@[go_sem] theorem zk95 : zeroOk Go.Proofs.Try.prog 95 = true := by kernel_rfl
@[go_sem] theorem ze95 : zeOf Go.Proofs.Try.prog 95 = .nilf := by kernel_rfl
@[go_sem] theorem ty98 : tyOf Go.Proofs.Try.prog 98 = .int .u64 := by kernel_rfl
@[go_sem] theorem sz98 : szOf Go.Proofs.Try.prog 98 = 1 := by kernel_rfl
@[go_sem] theorem by98 : byOf Go.Proofs.Try.prog 98 = 8 := by kernel_rfl
@[go_sem] theorem kn98 : known Go.Proofs.Try.prog 98 = true := by kernel_rfl
@[go_sem] theorem zk98 : zeroOk Go.Proofs.Try.prog 98 = true := by kernel_rfl
@[go_sem] theorem ze98 : zeOf Go.Proofs.Try.prog 98 = .int .u64 0 := by kernel_rfl
@[go_sem] theorem ty103 : tyOf Go.Proofs.Try.prog 103 = .int .u32 := by kernel_rfl
@[go_sem] theorem sz103 : szOf Go.Proofs.Try.prog 103 = 1 := by kernel_rfl
@[go_sem] theorem by103 : byOf Go.Proofs.Try.prog 103 = 4 := by kernel_rfl
@[go_sem] theorem kn103 : known Go.Proofs.Try.prog 103 = true := by kernel_rfl
@[go_sem] theorem zk103 : zeroOk Go.Proofs.Try.prog 103 = true := by kernel_rfl
@[go_sem] theorem ze103 : zeOf Go.Proofs.Try.prog 103 = .int .u32 0 := by kernel_rfl
@[go_sem] theorem ty104 : tyOf Go.Proofs.Try.prog 104 = .arr 8 103 := by kernel_rfl
@[go_sem] theorem sz104 : szOf Go.Proofs.Try.prog 104 = 8 := by kernel_rfl
@[go_sem] theorem by104 : byOf Go.Proofs.Try.prog 104 = 32 := by kernel_rfl
@[go_sem] theorem kn104 : known Go.Proofs.Try.prog 104 = true := by kernel_rfl
@[go_sem] theorem zk104 : zeroOk Go.Proofs.Try.prog 104 = true := by kernel_rfl
@[go_sem] theorem ze104 : zeOf Go.Proofs.Try.prog 104 = .agg [.int .u32 0, .int .u32 0, .int .u32 0, .int .u32 0, .int .u32 0, .int .u32 0, .int .u32 0, .int .u32 0] := by kernel_rfl
@[go_sem] theorem ty105 : tyOf Go.Proofs.Try.prog 105 = .arr 64 103 := by kernel_rfl
@[go_sem] theorem sz105 : szOf Go.Proofs.Try.prog 105 = 64 := by kernel_rfl
@[go_sem] theorem by105 : byOf Go.Proofs.Try.prog 105 = 256 := by kernel_rfl
@[go_sem] theorem kn105 : known Go.Proofs.Try.prog 105 = true := by kernel_rfl
@[go_sem] theorem zk105 : zeroOk Go.Proofs.Try.prog 105 = true := by kernel_rfl
@[go_sem] theorem ty107 : tyOf Go.Proofs.Try.prog 107 = .func := by kernel_rfl
@[go_sem] theorem sz107 : szOf Go.Proofs.Try.prog 107 = 1 := by kernel_rfl
@[go_sem] theorem by107 : byOf Go.Proofs.Try.prog 107 = 8 := by kernel_rfl
@[go_sem] theorem kn107 : known Go.Proofs.Try.prog 107 = true := by kernel_rfl
@[go_sem] theorem zk107 : zeroOk Go.Proofs.Try.prog 107 = true := by kernel_rfl
@[go_sem] theorem ze107 : zeOf Go.Proofs.Try.prog 107 = .nilf := by kernel_rfl
@[go_sem] theorem ty108 : tyOf Go.Proofs.Try.prog 108 = .func := by kernel_rfl
@[go_sem] theorem sz108 : szOf Go.Proofs.Try.prog 108 = 1 := by kernel_rfl
@[go_sem] theorem by108 : byOf Go.Proofs.Try.prog 108 = 8 := by kernel_rfl
@[go_sem] theorem kn108 : known Go.Proofs.Try.prog 108 = true := by kernel_rfl
@[go_sem] theorem zk108 : zeroOk Go.Proofs.Try.prog 108 = true := by kernel_rfl
@[go_sem] theorem ze108 : zeOf Go.Proofs.Try.prog 108 = .nilf := by kernel_rfl
@[go_sem] theorem ty112 : tyOf Go.Proofs.Try.prog 112 = .slice 103 := by kernel_rfl
@[go_sem] theorem sz112 : szOf Go.Proofs.Try.prog 112 = 1 := by kernel_rfl
@[go_sem] theorem by112 : byOf Go.Proofs.Try.prog 112 = 24 := by kernel_rfl
@[go_sem] theorem kn112 : known Go.Proofs.Try.prog 112 = true := by kernel_rfl
@[go_sem] theorem zk112 : zeroOk Go.Proofs.Try.prog 112 = true := by kernel_rfl
@[go_sem] theorem ze112 : zeOf Go.Proofs.Try.prog 112 = .nils := by kernel_rfl
@[go_sem] theorem ty115 : tyOf Go.Proofs.Try.prog 115 = .func := by kernel_rfl
@[go_sem] theorem sz115 : szOf Go.Proofs.Try.prog 115 = 1 := by kernel_rfl
@[go_sem] theorem by115 : byOf Go.Proofs.Try.prog 115 = 8 := by kernel_rfl
@[go_sem] theorem kn115 : known Go.Proofs.Try.prog 115 = true := by kernel_rfl
@[go_sem] theorem zk115 : zeroOk Go.Proofs.Try.prog 115 = true := by kernel_rfl
@[go_sem] theorem ze115 : zeOf Go.Proofs.Try.prog 115 = .nilf := by kernel_rfl
@[go_sem] theorem an3 : ann 3 = { vs := [1, 2, 3, 4, 5, 6] } := by kernel_rfl
@[go_sem] theorem an4 : ann 4 = { vs := [2, 4, 5, 6, 7, 8, 9, 10] } := by kernel_rfl
@[go_sem] theorem an5 : ann 5 = { vs := [1, 2, 3, 4, 5, 6, 7, 8, 9, 10, 11, 12, 13] } := by kernel_rfl
@[go_sem] theorem an6 : ann 6 = { vs := [8, 9, 10, 11, 12] } := by kernel_rfl
@[go_sem] theorem an7 : ann 7 = { vs := [6, 7, 8, 9, 10] } := by kernel_rfl
@[go_sem] theorem an8 : ann 8 = { vs := [2, 4] } := by kernel_rfl
@[go_sem] theorem an9 : ann 9 = { vs := [1, 2, 3, 4, 5, 6], keep := [(0, [(1, .v), (3, .v)]), (2, [(1, .v), (5, .v)])] } := by kernel_rfl
@[go_sem] theorem an10 : ann 10 = { vs := [1, 2, 3] } := by kernel_rfl
@[go_sem] theorem an11 : ann 11 = { vs := [1, 2] } := by kernel_rfl
@[go_sem] theorem an12 : ann 12 = { vs := [2, 3, 4] } := by kernel_rfl
@[go_sem] theorem an13 : ann 13 = { vs := [2, 4, 5, 6] } := by kernel_rfl
@[go_sem] theorem an14 : ann 14 = { vs := [2, 4, 5, 6, 7] } := by kernel_rfl
@[go_sem] theorem an15 : ann 15 = { vs := [2, 3, 4] } := by kernel_rfl
@[go_sem] theorem an16 : ann 16 = { vs := [1, 2, 3] } := by kernel_rfl
@[go_sem] theorem an17 : ann 17 = { vs := [1, 2, 3] } := by kernel_rfl
@[go_sem] theorem an18 : ann 18 = { vs := [4, 5], keep := [(0, [(0, .v), (1, .v), (5, .v)])] } := by kernel_rfl
@[go_sem] theorem an19 : ann 19 = { vs := [2, 4], modes := [.l] } := by kernel_rfl
@[go_sem] theorem an20 : ann 20 = { vs := [4, 5], keep := [(0, [(0, .v), (1, .v), (5, .v)])], modes := [.l] } := by kernel_rfl
@[go_sem] theorem an21 : ann 21 = { vs := [4, 5], keep := [(0, [(0, .v), (1, .v), (5, .v)])] } := by kernel_rfl
@[go_sem] theorem an22 : ann 22 = { vs := [8, 9] } := by kernel_rfl
@[go_sem] theorem an23 : ann 23 = { vs := [8, 9] } := by kernel_rfl
@[go_sem] theorem an24 : ann 24 = { vs := [6, 7] } := by kernel_rfl
@[go_sem] theorem an25 : ann 25 = { vs := [6, 7] } := by kernel_rfl
@[go_sem] theorem an26 : ann 26 = { vs := [4, 5], keep := [(0, [(0, .v), (1, .v), (5, .v)])] } := by kernel_rfl
@[go_sem] theorem an27 : ann 27 = { vs := [4] } := by kernel_rfl
@[go_sem] theorem an28 : ann 28 = { vs := [1, 2] } := by kernel_rfl
@[go_sem] theorem an29 : ann 29 = { vs := [6] } := by kernel_rfl
@[go_sem] theorem an30 : ann 30 = { vs := [2, 3, 4], keep := [(0, [(0, .v), (3, .v), (4, .v)])] } := by kernel_rfl
@[go_sem] theorem an31 : ann 31 = { vs := [2, 3, 4], keep := [(0, [(0, .v), (3, .v), (4, .v)])] } := by kernel_rfl
@[go_sem] theorem an32 : ann 32 = { vs := [3, 4] } := by kernel_rfl
@[go_sem] theorem an33 : ann 33 = { vs := [1, 2] } := by kernel_rfl
@[go_sem] theorem an34 : ann 34 = { vs := [4, 5], keep := [(0, [(0, .v), (1, .v), (5, .v)])] } := by kernel_rfl
@[go_sem] theorem an35 : ann 35 = { vs := [1, 2] } := by kernel_rfl
@[go_sem] theorem an36 : ann 36 = { vs := [3, 4] } := by kernel_rfl
@[go_sem] theorem an37 : ann 37 = { vs := [1, 2] } := by kernel_rfl
@[go_sem] theorem an38 : ann 38 = { vs := [4, 5], keep := [(0, [(0, .v), (1, .v), (5, .v)])] } := by kernel_rfl
@[go_sem] theorem an39 : ann 39 = { vs := [1, 2] } := by kernel_rfl
@[go_sem] theorem an40 : ann 40 = { vs := [4, 5], keep := [(0, [(0, .v), (1, .v), (5, .v)])] } := by kernel_rfl
@[go_sem] theorem an41 : ann 41 = { vs := [4, 5], keep := [(0, [(0, .v), (1, .v), (5, .v)])] } := by kernel_rfl
@[go_sem] theorem an42 : ann 42 = { vs := [2, 4, 5], keep := [(0, [(1, .v), (2, .v), (5, .v)])] } := by kernel_rfl
@[go_sem] theorem an43 : ann 43 = { vs := [2, 4, 5] } := by kernel_rfl
@[go_sem] theorem an44 : ann 44 = { vs := [1, 2, 3, 4, 5, 6, 7], keep := [(0, [(1, .v), (3, .o 1 true), (4, .v)]), (2, [(1, .v), (3, .o 1 true), (6, .v)]), (1000006, []), (1000013, []), (1000014, [])] } := by kernel_rfl
@[go_sem] theorem an45 : ann 45 = { vs := [1, 2, 3, 5, 7, 13, 14, 15, 39, 40, 41], keep := [(0, [(1, .v), (3, .v), (13, .v), (14, .v), (15, .v)]), (2, [(3, .v), (39, .v), (40, .v), (41, .v)])] } := by kernel_rfl
@[go_sem] theorem an46 : ann 46 = { vs := [4, 5], keep := [(0, [(0, .v), (1, .v), (5, .v)])], modes := [.l] } := by kernel_rfl
@[go_sem] theorem an47 : ann 47 = { vs := [4, 5], keep := [(0, [(0, .v), (1, .v), (5, .v)])], modes := [.l] } := by kernel_rfl
@[go_sem] theorem an48 : ann 48 = { vs := [8] } := by kernel_rfl
@[go_sem] theorem an49 : ann 49 = { vs := [2] } := by kernel_rfl
@[go_sem] theorem an50 : ann 50 = { vs := [2] } := by kernel_rfl
@[go_sem] theorem an51 : ann 51 = { vs := [2] } := by kernel_rfl
@[go_sem] theorem an52 : ann 52 = { vs := [4] } := by kernel_rfl
@[go_sem] theorem an53 : ann 53 = { vs := [4, 5, 6], keep := [(0, [(0, .v), (5, .v), (6, .v)])] } := by kernel_rfl
@[go_sem] theorem an54 : ann 54 = { vs := [6] } := by kernel_rfl
@[go_sem] theorem an55 : ann 55 = { vs := [2] } := by kernel_rfl
@[go_sem] theorem an56 : ann 56 = { vs := [6] } := by kernel_rfl
@[go_sem] theorem an57 : ann 57 = { vs := [2, 4] } := by kernel_rfl
@[go_sem] theorem an58 : ann 58 = { vs := [1, 2, 3] } := by kernel_rfl
@[go_sem] theorem an59 : ann 59 = { vs := [1, 2, 3] } := by kernel_rfl
@[go_sem] theorem an60 : ann 60 = { vs := [4] } := by kernel_rfl
@[go_sem] theorem an61 : ann 61 = { vs := [2, 3] } := by kernel_rfl
@[go_sem] theorem an62 : ann 62 = { vs := [6] } := by kernel_rfl
@[go_sem] theorem an63 : ann 63 = { vs := [4] } := by kernel_rfl
@[go_sem] theorem an64 : ann 64 = { vs := [2, 3] } := by kernel_rfl
@[go_sem] theorem an65 : ann 65 = { vs := [2] } := by kernel_rfl
@[go_sem] theorem an66 : ann 66 = { vs := [2, 3, 4] } := by kernel_rfl
@[go_sem] theorem an67 : ann 67 = { vs := [6, 7, 8, 9, 10, 11], keep := [(0, [(0, .v), (1, .v), (2, .v), (8, .v), (9, .v), (10, .v)])] } := by kernel_rfl
@[go_sem] theorem an68 : ann 68 = { vs := [2, 4] } := by kernel_rfl
@[go_sem] theorem an69 : ann 69 = { vs := [4, 5, 6] } := by kernel_rfl
@[go_sem] theorem an70 : ann 70 = { vs := [2] } := by kernel_rfl
@[go_sem] theorem an71 : ann 71 = { vs := [2] } := by kernel_rfl
@[go_sem] theorem an72 : ann 72 = { vs := [2, 3], keep := [(0, [(0, .v), (3, .v)])] } := by kernel_rfl
@[go_sem] theorem an73 : ann 73 = { vs := [4, 5, 6, 7, 8], keep := [(0, [(0, .v), (1, .v), (5, .v), (6, .v), (7, .v)])] } := by kernel_rfl
@[go_sem] theorem an74 : ann 74 = { vs := [4] } := by kernel_rfl
@[go_sem] theorem an75 : ann 75 = { vs := [2] } := by kernel_rfl
@[go_sem] theorem an76 : ann 76 = { vs := [2, 3, 4, 5, 6, 7, 9, 38, 39], keep := [(0, [(0, .v), (3, .o 1 true), (6, .v)]), (4, [(7, .v), (38, .v), (39, .v)])] } := by kernel_rfl
@[go_sem] theorem an77 : ann 77 = { vs := [4, 5, 6, 12, 13], keep := [(0, [(1, .v), (5, .v), (12, .v), (13, .v)])] } := by kernel_rfl
@[go_sem] theorem an78 : ann 78 = { vs := [4, 5, 7, 8], keep := [(0, [(0, .v), (1, .v), (7, .v), (8, .v)])] } := by kernel_rfl
@[go_sem] theorem an79 : ann 79 = { vs := [4, 5, 7, 8], keep := [(0, [(0, .v), (1, .v), (7, .v), (8, .v)])] } := by kernel_rfl
@[go_sem] theorem an80 : ann 80 = { vs := [2] } := by kernel_rfl
@[go_sem] theorem an81 : ann 81 = { vs := [2, 3, 4, 5, 6, 7, 8, 9], keep := [(0, [(0, .v), (3, .v), (4, .o 1 true)]), (2, [(0, .v), (3, .v), (4, .o 1 true), (5, .v)]), (4, [(3, .v), (4, .v), (6, .v), (7, .v)]), (6, [(3, .v), (8, .o 1 true), (9, .v)])] } := by kernel_rfl
@[go_sem] theorem an82 : ann 82 = { vs := [4, 5, 7, 8], keep := [(0, [(0, .v), (1, .v), (7, .v), (8, .v)])] } := by kernel_rfl
@[go_sem] theorem an83 : ann 83 = { vs := [0] } := by kernel_rfl
@[go_sem] theorem an84 : ann 84 = { vs := [2, 3, 4] } := by kernel_rfl
@[go_sem] theorem an85 : ann 85 = { vs := [3, 4, 5, 6, 7, 8, 9, 10, 11, 12, 13, 15, 95], keep := [(0, [(3, .v), (4, .v), (5, .v), (6, .v), (7, .v), (15, .v)]), (2, [(3, .v), (6, .v), (7, .v), (95, .v)])] } := by kernel_rfl
@[go_sem] theorem an86 : ann 86 = { vs := [2, 3, 4, 6, 7, 8, 9, 10, 11, 22, 23, 24], keep := [(0, [(0, .v), (2, .v), (3, .v), (11, .v)]), (2, [(0, .v), (2, .v), (3, .v), (4, .v), (11, .v), (22, .v), (23, .v), (24, .v)])] } := by kernel_rfl
@[go_sem] theorem an87 : ann 87 = { vs := [0] } := by kernel_rfl
@[go_sem] theorem an88 : ann 88 = { vs := [6, 7, 8, 9, 10, 11, 12, 13, 14, 15, 16, 17], keep := [(0, [(0, .v), (1, .v), (2, .v), (6, .v), (7, .v)]), (2, [(0, .v), (2, .v), (6, .v), (8, .v)]), (4, [(0, .v), (2, .v), (6, .v), (11, .o 1 true), (12, .v)]), (6, [(0, .v), (11, .v), (17, .v)])] } := by kernel_rfl
@[go_sem] theorem an89 : ann 89 = { vs := [4, 5], keep := [(0, [(0, .v), (1, .v), (2, .v), (4, .v)])] } := by kernel_rfl
@[go_sem] theorem an90 : ann 90 = { vs := [4] } := by kernel_rfl
@[go_sem] theorem an91 : ann 91 = { vs := [4] } := by kernel_rfl
@[go_sem] theorem an92 : ann 92 = { vs := [4, 5] } := by kernel_rfl
@[go_sem] theorem an0 : ann 0 = {} := by kernel_rfl
@[go_sem] theorem an1 : ann 1 = {} := by kernel_rfl
@[go_sem] theorem an2 : ann 2 = {} := by kernel_rfl
@[go_sem] theorem an93 : ann 93 = {} := by kernel_rfl
@[go_sem] theorem an94 : ann 94 = {} := by kernel_rfl
@[go_sem] theorem an95 : ann 95 = {} := by kernel_rfl
@[go_sem] theorem an96 : ann 96 = {} := by kernel_rfl
@[go_sem] theorem an97 : ann 97 = {} := by kernel_rfl
@[go_sem] theorem an98 : ann 98 = {} := by kernel_rfl
@[go_sem] theorem an99 : ann 99 = {} := by kernel_rfl
@[go_sem] theorem an100 : ann 100 = {} := by kernel_rfl
@[go_sem] theorem an101 : ann 101 = {} := by kernel_rfl
@[go_sem] theorem an102 : ann 102 = {} := by kernel_rfl
@[go_sem] theorem an103 : ann 103 = {} := by kernel_rfl
@[go_sem] theorem an104 : ann 104 = {} := by kernel_rfl
@[go_sem] theorem an105 : ann 105 = {} := by kernel_rfl
@[go_sem] theorem an106 : ann 106 = {} := by kernel_rfl
@[go_sem] theorem an107 : ann 107 = {} := by kernel_rfl
@[go_sem] theorem an108 : ann 108 = {} := by kernel_rfl
@[go_sem] theorem re2 : Go.Proofs.Try.f2.results.toList = [] := rfl
@[go_sem] theorem re3 : Go.Proofs.Try.f3.results.toList = [.tmp 2] := rfl
@[go_sem] theorem re4 : Go.Proofs.Try.f4.results.toList = [.tmp 4] := rfl
@[go_sem] theorem re5 : Go.Proofs.Try.f5.results.toList = [.tmp 2] := rfl
@[go_sem] theorem re6 : Go.Proofs.Try.f6.results.toList = [.tmp 8] := rfl
@[go_sem] theorem re7 : Go.Proofs.Try.f7.results.toList = [.tmp 6] := rfl
@[go_sem] theorem re8 : Go.Proofs.Try.f8.results.toList = [.tmp 4] := rfl
@[go_sem] theorem re9 : Go.Proofs.Try.f9.results.toList = [.tmp 2] := rfl
@[go_sem] theorem re10 : Go.Proofs.Try.f10.results.toList = [.cell 2 31] := rfl
@[go_sem] theorem re11 : Go.Proofs.Try.f11.results.toList = [.tmp 2] := rfl
@[go_sem] theorem re12 : Go.Proofs.Try.f12.results.toList = [.tmp 4] := rfl
@[go_sem] theorem re13 : Go.Proofs.Try.f13.results.toList = [.cell 4 36, .tmp 5] := rfl
@[go_sem] theorem re14 : Go.Proofs.Try.f14.results.toList = [.cell 4 36, .tmp 5] := rfl
@[go_sem] theorem re15 : Go.Proofs.Try.f15.results.toList = [.tmp 4] := rfl
@[go_sem] theorem re16 : Go.Proofs.Try.f16.results.toList = [.tmp 2, .tmp 3] := rfl
@[go_sem] theorem re17 : Go.Proofs.Try.f17.results.toList = [.tmp 2, .tmp 3] := rfl
@[go_sem] theorem re18 : Go.Proofs.Try.f18.results.toList = [.tmp 4] := rfl
@[go_sem] theorem re19 : Go.Proofs.Try.f19.results.toList = [.tmp 4] := rfl
@[go_sem] theorem re20 : Go.Proofs.Try.f20.results.toList = [.tmp 4] := rfl
@[go_sem] theorem re21 : Go.Proofs.Try.f21.results.toList = [.tmp 4] := rfl
@[go_sem] theorem re22 : Go.Proofs.Try.f22.results.toList = [.tmp 8, .tmp 9] := rfl
@[go_sem] theorem re23 : Go.Proofs.Try.f23.results.toList = [.tmp 8, .tmp 9] := rfl
@[go_sem] theorem re24 : Go.Proofs.Try.f24.results.toList = [.tmp 6, .tmp 7] := rfl
@[go_sem] theorem re25 : Go.Proofs.Try.f25.results.toList = [.tmp 6, .tmp 7] := rfl
@[go_sem] theorem re26 : Go.Proofs.Try.f26.results.toList = [.tmp 4] := rfl
@[go_sem] theorem re27 : Go.Proofs.Try.f27.results.toList = [.tmp 4] := rfl
@[go_sem] theorem re28 : Go.Proofs.Try.f28.results.toList = [.tmp 2] := rfl
@[go_sem] theorem re29 : Go.Proofs.Try.f29.results.toList = [.tmp 6] := rfl
@[go_sem] theorem re30 : Go.Proofs.Try.f30.results.toList = [.tmp 2] := rfl
@[go_sem] theorem re31 : Go.Proofs.Try.f31.results.toList = [.tmp 2] := rfl
@[go_sem] theorem re32 : Go.Proofs.Try.f32.results.toList = [.tmp 4] := rfl
@[go_sem] theorem re33 : Go.Proofs.Try.f33.results.toList = [.tmp 2] := rfl
@[go_sem] theorem re34 : Go.Proofs.Try.f34.results.toList = [.tmp 4] := rfl
@[go_sem] theorem re35 : Go.Proofs.Try.f35.results.toList = [.tmp 2] := rfl
@[go_sem] theorem re36 : Go.Proofs.Try.f36.results.toList = [.tmp 4] := rfl
@[go_sem] theorem re37 : Go.Proofs.Try.f37.results.toList = [.tmp 2] := rfl
@[go_sem] theorem re38 : Go.Proofs.Try.f38.results.toList = [.tmp 4] := rfl
@[go_sem] theorem re39 : Go.Proofs.Try.f39.results.toList = [.tmp 2] := rfl
@[go_sem] theorem re40 : Go.Proofs.Try.f40.results.toList = [.tmp 4] := rfl
@[go_sem] theorem re41 : Go.Proofs.Try.f41.results.toList = [.tmp 4] := rfl
@[go_sem] theorem re42 : Go.Proofs.Try.f42.results.toList = [.tmp 4] := rfl
@[go_sem] theorem re43 : Go.Proofs.Try.f43.results.toList = [.tmp 4, .tmp 5] := rfl
@[go_sem] theorem re44 : Go.Proofs.Try.f44.results.toList = [.tmp 2] := rfl
@[go_sem] theorem re45 : Go.Proofs.Try.f45.results.toList = [.tmp 2] := rfl
@[go_sem] theorem re46 : Go.Proofs.Try.f46.results.toList = [.tmp 4] := rfl
@[go_sem] theorem re47 : Go.Proofs.Try.f47.results.toList = [.tmp 4] := rfl
@[go_sem] theorem re48 : Go.Proofs.Try.f48.results.toList = [.tmp 8] := rfl
@[go_sem] theorem re49 : Go.Proofs.Try.f49.results.toList = [.tmp 2] := rfl
@[go_sem] theorem re50 : Go.Proofs.Try.f50.results.toList = [.tmp 2] := rfl
@[go_sem] theorem re51 : Go.Proofs.Try.f51.results.toList = [.tmp 2] := rfl
@[go_sem] theorem re52 : Go.Proofs.Try.f52.results.toList = [.tmp 4] := rfl
@[go_sem] theorem re53 : Go.Proofs.Try.f53.results.toList = [.tmp 4] := rfl
@[go_sem] theorem re54 : Go.Proofs.Try.f54.results.toList = [.tmp 6] := rfl
@[go_sem] theorem re55 : Go.Proofs.Try.f55.results.toList = [.tmp 2] := rfl
@[go_sem] theorem re56 : Go.Proofs.Try.f56.results.toList = [.tmp 6] := rfl
@[go_sem] theorem re57 : Go.Proofs.Try.f57.results.toList = [.tmp 4] := rfl
@[go_sem] theorem re58 : Go.Proofs.Try.f58.results.toList = [.cell 2 36] := rfl
@[go_sem] theorem re59 : Go.Proofs.Try.f59.results.toList = [.cell 2 56] := rfl
@[go_sem] theorem re60 : Go.Proofs.Try.f60.results.toList = [.tmp 4] := rfl
@[go_sem] theorem re61 : Go.Proofs.Try.f61.results.toList = [.tmp 3] := rfl
@[go_sem] theorem re62 : Go.Proofs.Try.f62.results.toList = [.tmp 6] := rfl
@[go_sem] theorem re63 : Go.Proofs.Try.f63.results.toList = [.tmp 4] := rfl
@[go_sem] theorem re64 : Go.Proofs.Try.f64.results.toList = [.tmp 3] := rfl
@[go_sem] theorem re65 : Go.Proofs.Try.f65.results.toList = [.tmp 2] := rfl
@[go_sem] theorem re66 : Go.Proofs.Try.f66.results.toList = [.tmp 4] := rfl
@[go_sem] theorem re67 : Go.Proofs.Try.f67.results.toList = [.tmp 6, .tmp 7] := rfl
@[go_sem] theorem re68 : Go.Proofs.Try.f68.results.toList = [.tmp 4] := rfl
@[go_sem] theorem re69 : Go.Proofs.Try.f69.results.toList = [.tmp 4] := rfl
@[go_sem] theorem re70 : Go.Proofs.Try.f70.results.toList = [.tmp 2] := rfl
@[go_sem] theorem re71 : Go.Proofs.Try.f71.results.toList = [.tmp 2] := rfl
@[go_sem] theorem re72 : Go.Proofs.Try.f72.results.toList = [.tmp 2] := rfl
@[go_sem] theorem re73 : Go.Proofs.Try.f73.results.toList = [.tmp 4] := rfl
@[go_sem] theorem re74 : Go.Proofs.Try.f74.results.toList = [.tmp 4] := rfl
@[go_sem] theorem re75 : Go.Proofs.Try.f75.results.toList = [.tmp 2] := rfl
@[go_sem] theorem re76 : Go.Proofs.Try.f76.results.toList = [.tmp 2] := rfl
@[go_sem] theorem re77 : Go.Proofs.Try.f77.results.toList = [.tmp 4] := rfl
@[go_sem] theorem re78 : Go.Proofs.Try.f78.results.toList = [.tmp 4] := rfl
@[go_sem] theorem re79 : Go.Proofs.Try.f79.results.toList = [.tmp 4] := rfl
@[go_sem] theorem re80 : Go.Proofs.Try.f80.results.toList = [.tmp 2] := rfl
@[go_sem] theorem re81 : Go.Proofs.Try.f81.results.toList = [.tmp 2] := rfl
@[go_sem] theorem re82 : Go.Proofs.Try.f82.results.toList = [.tmp 4] := rfl
@[go_sem] theorem re83 : Go.Proofs.Try.f83.results.toList = [.cell 0 105] := rfl
@[go_sem] theorem re84 : Go.Proofs.Try.f84.results.toList = [.tmp 4] := rfl
@[go_sem] theorem re85 : Go.Proofs.Try.f85.results.toList = [.cell 6 104] := rfl
@[go_sem] theorem re86 : Go.Proofs.Try.f86.results.toList = [.cell 2 105] := rfl
@[go_sem] theorem re87 : Go.Proofs.Try.f87.results.toList = [.tmp 0] := rfl
@[go_sem] theorem re88 : Go.Proofs.Try.f88.results.toList = [] := rfl
@[go_sem] theorem re89 : Go.Proofs.Try.f89.results.toList = [] := rfl
@[go_sem] theorem re90 : Go.Proofs.Try.f90.results.toList = [.tmp 4] := rfl
@[go_sem] theorem re91 : Go.Proofs.Try.f91.results.toList = [.tmp 4] := rfl
@[go_sem] theorem re92 : Go.Proofs.Try.f92.results.toList = [.tmp 4] := rfl
end Go.Proofs.Ytanfmemjiocpfaa.Ev
