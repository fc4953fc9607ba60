/- Annotations of the functions, and facts of types, by gen.py. No condition. -/
import Derived.Test.YtbgijachckondaaEvStep
import Derived.Test.YtbgijachckondaaEvCore
import Derived.Test.YtbgijachckondaaProg
namespace Go.Proofs.Ytbgijachckondaa.Ev
open Go
def annL : List (Nat × Ann) := [
  (3, { vs := [8, 9, 10, 11, 12] }),
  (4, { vs := [8, 9, 10, 11, 12] }),
  (5, { vs := [8, 9, 10] }),
  (6, { vs := [8, 9, 10] }),
  (7, { vs := [8, 9, 10, 11, 12] }),
  (8, { vs := [8, 9, 10, 11, 12] }),
  (9, { vs := [6] }),
  (10, { vs := [6] }),
  (11, { vs := [8] }),
  (12, { vs := [2] }),
  (13, { vs := [6] }),
  (14, { vs := [2] }),
  (15, { vs := [8] }),
  (16, { vs := [8, 9, 10, 11] }),
  (17, { vs := [8, 9, 10, 11] }),
  (18, { vs := [8, 9, 10, 11] }),
  (19, { vs := [4] }),
  (20, { vs := [4] }),
  (21, { vs := [2] }),
  (22, { vs := [6] }),
  (23, { vs := [2] }),
  (24, { vs := [8, 9, 10, 11] }),
  (25, { vs := [4] }),
  (26, { vs := [8, 9, 10, 11, 12] }),
  (27, { vs := [8, 9, 10, 11, 12] }),
  (28, { vs := [2, 3, 4] }),
  (29, { vs := [6, 7, 8, 9, 10, 11, 12], keep := [(0, [(1, .v), (7, .v), (8, .v), (9, .v), (10, .v)]), (2, [(1, .v), (7, .v), (8, .v), (9, .v), (10, .v), (11, .v), (12, .v)])] }),
  (30, { vs := [8, 9] }),
  (31, { vs := [2] }),
  (32, { vs := [4, 5, 7, 8], keep := [(0, [(0, .v), (1, .v), (7, .v), (8, .v)])] }),
  (33, { vs := [2, 3, 4] }),
  (34, { vs := [6, 7, 8, 9, 10, 11], keep := [(0, [(1, .v), (7, .v), (8, .v), (9, .v)]), (2, [(1, .v), (7, .v), (8, .v), (9, .v), (10, .v), (11, .v)])] }),
  (35, { vs := [8] }),
  (36, { vs := [4, 5, 6], keep := [(0, [(0, .v), (5, .v), (6, .v)])] }),
  (37, { vs := [6, 7, 8, 9], keep := [(0, [(0, .v), (1, .v), (2, .v), (7, .v), (8, .v), (9, .v)])] }),
  (38, { vs := [4, 5, 6, 7, 8], keep := [(0, [(0, .v), (1, .v), (5, .v), (6, .v), (7, .v)])] }),
  (39, { vs := [0, 1, 2, 3, 4, 5], keep := [(0, [(1, .v), (2, .v), (3, .v)]), (2, [(1, .v), (4, .v), (5, .v)])] }),
  (40, { vs := [4, 5, 6, 7, 8, 9, 10, 11, 12, 13, 14], keep := [(0, [(0, .v), (1, .v), (5, .v), (6, .o 1 true), (7, .v)]), (2, [(1, .v), (5, .v), (6, .o 1 true), (8, .v), (9, .v)]), (4, [(1, .v), (5, .v), (6, .v), (8, .v), (9, .v), (10, .v), (11, .v)]), (6, [(1, .v), (5, .v), (6, .v), (8, .v), (9, .v), (10, .v), (12, .v)]), (8, [(6, .v), (13, .o 1 true), (14, .v)])] }),
  (41, { vs := [6, 7, 8], keep := [(0, [(0, .v), (1, .v), (7, .o 1 true), (8, .v)])] }),
  (42, { vs := [6, 7, 8, 9], keep := [(0, [(0, .v), (1, .v), (2, .v), (7, .v), (8, .v), (9, .v)])] }),
  (43, { vs := [4] }),
  (44, { vs := [2, 3, 4, 5, 6, 7, 8, 9, 10, 11, 12, 13, 14, 17, 45, 46, 142, 170], keep := [(0, [(0, .v), (3, .v), (17, .v)]), (2, [(0, .v), (3, .v), (6, .v), (7, .v), (8, .v), (45, .v), (46, .v)]), (5, [(0, .v), (3, .v), (6, .v), (7, .v), (8, .v), (9, .v), (10, .v), (45, .v), (46, .v), (142, .v)]), (7, [(3, .v), (7, .v), (12, .v)]), (9, [(3, .v), (7, .v), (12, .v), (13, .v), (170, .v)])] }),
  (45, { vs := [2] }),
  (46, { vs := [3, 4, 5, 6, 7, 8, 9, 29], keep := [(0, [(0, .v), (3, .v), (4, .v), (5, .v), (6, .v)]), (2, [(0, .v), (3, .v), (4, .v), (5, .v), (6, .v), (7, .v), (29, .v)])] }),
  (47, { vs := [2, 3, 4, 5, 6, 7, 8, 9], keep := [(0, [(0, .v), (3, .v), (4, .o 1 true)]), (2, [(0, .v), (3, .v), (4, .o 1 true), (5, .v)]), (4, [(3, .v), (4, .v), (6, .v), (7, .v)]), (6, [(3, .v), (8, .o 1 true), (9, .v)])] }),
  (48, { vs := [2] }),
  (49, { vs := [2, 3, 4], keep := [(0, [(0, .v), (3, .v), (4, .v)])] }),
  (50, { vs := [4, 5, 6], keep := [(0, [(0, .v), (1, .v), (5, .v), (6, .v)])] }),
  (51, { vs := [2, 3, 4], keep := [(0, [(0, .v), (3, .o 1 true), (4, .v)])] }),
  (52, { vs := [4], keep := [(0, [(0, .v), (1, .v), (4, .v)])], modes := [.l] }),
  (53, { vs := [4], keep := [(0, [(0, .v), (1, .v), (4, .v)])], modes := [.l] }),
  (54, { vs := [4, 5, 6, 7], keep := [(0, [(0, .v), (1, .v), (5, .v), (6, .v)]), (2, [(0, .v), (1, .v), (5, .v), (6, .v), (7, .v)])] }),
  (55, { vs := [2, 3, 4, 5, 6], keep := [(0, [(0, .v), (3, .v), (4, .v)]), (2, [(0, .v), (3, .v), (4, .v), (5, .v), (6, .v)])] }),
  (56, { vs := [2, 3, 4], keep := [(0, [(0, .v), (3, .o 1 true), (4, .v)])] }),
  (57, { vs := [2, 3, 4, 5, 6, 7, 9, 38, 39], keep := [(0, [(0, .v), (3, .o 1 true), (6, .v)]), (4, [(7, .v), (38, .v), (39, .v)])] }),
  (58, { vs := [4, 5, 6, 12, 13], keep := [(0, [(1, .v), (5, .v), (12, .v), (13, .v)])] }),
  (59, { vs := [2, 3] }),
  (60, { vs := [4, 5, 6], keep := [(0, [(1, .v), (5, .v), (6, .v)])] }),
  (61, { vs := [2, 3, 4, 5, 6], keep := [(0, [(2, .v), (3, .v), (4, .v), (6, .v)])] }),
  (62, { vs := [2, 4, 5, 6], keep := [(0, [(1, .v), (2, .v), (4, .v), (5, .v)])] }),
  (63, { vs := [1, 2, 3, 4, 5, 17], keep := [(0, [(1, .v), (2, .v), (3, .v), (4, .v), (17, .v)])] }),
  (64, { vs := [0] }),
  (65, { vs := [6, 7, 8, 9, 10, 11, 12, 13, 14, 15, 16, 17], keep := [(0, [(0, .v), (1, .v), (2, .v), (6, .v), (7, .v)]), (2, [(0, .v), (2, .v), (6, .v), (8, .v)]), (4, [(0, .v), (2, .v), (6, .v), (11, .o 1 true), (12, .v)]), (6, [(0, .v), (11, .v), (17, .v)])], modes := [.l] }),
  (66, { vs := [0] }),
  (67, { vs := [2, 3, 4] }),
  (68, { vs := [3, 4, 5, 6, 7, 8, 9, 10, 11, 12, 13, 15, 95], keep := [(0, [(3, .v), (4, .v), (5, .v), (6, .v), (7, .v), (15, .v)]), (2, [(3, .v), (6, .v), (7, .v), (95, .v)])] }),
  (69, { vs := [2, 3, 4, 6, 7, 8, 9, 10, 11, 22, 23, 24], keep := [(0, [(0, .v), (2, .v), (3, .v), (11, .v)]), (2, [(0, .v), (2, .v), (3, .v), (4, .v), (11, .v), (22, .v), (23, .v), (24, .v)])] }),
  (70, { vs := [2, 3, 4, 6], keep := [(0, [(3, .v), (4, .v), (6, .v)])] }),
  (71, { vs := [4, 5] }),
  (72, { vs := [2] }),
  (73, { vs := [4] }),
  (74, { vs := [4, 5], keep := [(0, [(0, .v), (1, .v), (2, .v), (4, .v)])] }),
  (75, { vs := [4] }),
  (76, { vs := [4, 5] })]
def annOf : List (Nat × Ann) → Nat → Ann
  | [], _ => {}
  | (k, a) :: l, f => if k = f then a else annOf l f
def ann (f : FuncId) : Ann := annOf annL f
@[go_sem] theorem ty3 : tyOf Go.Proofs.Try.prog 3 = .int .i64 := by kernel_rfl
@[go_sem] theorem sz3 : szOf Go.Proofs.Try.prog 3 = 1 := by kernel_rfl
@[go_sem] theorem by3 : byOf Go.Proofs.Try.prog 3 = 8 := by kernel_rfl
@[go_sem] theorem kn3 : known Go.Proofs.Try.prog 3 = true := by kernel_rfl
@[go_sem] theorem zk3 : zeroOk Go.Proofs.Try.prog 3 = true := by kernel_rfl
@[go_sem] theorem ze3 : zeOf Go.Proofs.Try.prog 3 = .int .i64 0 := by kernel_rfl
@[go_sem] theorem ty4 : tyOf Go.Proofs.Try.prog 4 = .bool := by kernel_rfl
@[go_sem] theorem sz4 : szOf Go.Proofs.Try.prog 4 = 1 := by kernel_rfl
@[go_sem] theorem by4 : byOf Go.Proofs.Try.prog 4 = 1 := by kernel_rfl
@[go_sem] theorem kn4 : known Go.Proofs.Try.prog 4 = true := by kernel_rfl
@[go_sem] theorem zk4 : zeroOk Go.Proofs.Try.prog 4 = true := by kernel_rfl
@[go_sem] theorem ze4 : zeOf Go.Proofs.Try.prog 4 = .bool false := by kernel_rfl
@[go_sem] theorem ty5 : tyOf Go.Proofs.Try.prog 5 = .int .u8 := by kernel_rfl
@[go_sem] theorem sz5 : szOf Go.Proofs.Try.prog 5 = 1 := by kernel_rfl
@[go_sem] theorem by5 : byOf Go.Proofs.Try.prog 5 = 1 := by kernel_rfl
@[go_sem] theorem kn5 : known Go.Proofs.Try.prog 5 = true := by kernel_rfl
@[go_sem] theorem zk5 : zeroOk Go.Proofs.Try.prog 5 = true := by kernel_rfl
@[go_sem] theorem ze5 : zeOf Go.Proofs.Try.prog 5 = .int .u8 0 := by kernel_rfl
@[go_sem] theorem ty9 : tyOf Go.Proofs.Try.prog 9 = .str := by kernel_rfl
@[go_sem] theorem sz9 : szOf Go.Proofs.Try.prog 9 = 1 := by kernel_rfl
@[go_sem] theorem by9 : byOf Go.Proofs.Try.prog 9 = 16 := by kernel_rfl
@[go_sem] theorem kn9 : known Go.Proofs.Try.prog 9 = true := by kernel_rfl
@[go_sem] theorem zk9 : zeroOk Go.Proofs.Try.prog 9 = true := by kernel_rfl
@[go_sem] theorem ze9 : zeOf Go.Proofs.Try.prog 9 = .str [] := by kernel_rfl
@[go_sem] theorem ty29 : tyOf Go.Proofs.Try.prog 29 = .func := by kernel_rfl
@[go_sem] theorem sz29 : szOf Go.Proofs.Try.prog 29 = 1 := by kernel_rfl
@[go_sem] theorem by29 : byOf Go.Proofs.Try.prog 29 = 8 := by kernel_rfl
@[go_sem] theorem kn29 : known Go.Proofs.Try.prog 29 = true := by kernel_rfl
@[go_sem] theorem zk29 : zeroOk Go.Proofs.Try.prog 29 = true := by kernel_rfl
@[go_sem] theorem ze29 : zeOf Go.Proofs.Try.prog 29 = .nilf := by kernel_rfl
@[go_sem] theorem ty32 : tyOf Go.Proofs.Try.prog 32 = .slice 5 := by kernel_rfl
@[go_sem] theorem sz32 : szOf Go.Proofs.Try.prog 32 = 1 := by kernel_rfl
@[go_sem] theorem by32 : byOf Go.Proofs.Try.prog 32 = 24 := by kernel_rfl
@[go_sem] theorem kn32 : known Go.Proofs.Try.prog 32 = true := by kernel_rfl
@[go_sem] theorem zk32 : zeroOk Go.Proofs.Try.prog 32 = true := by kernel_rfl
@[go_sem] theorem ze32 : zeOf Go.Proofs.Try.prog 32 = .nils := by kernel_rfl
@[go_sem] theorem ty35 : tyOf Go.Proofs.Try.prog 35 = .slice 9 := by kernel_rfl
@[go_sem] theorem sz35 : szOf Go.Proofs.Try.prog 35 = 1 := by kernel_rfl
@[go_sem] theorem by35 : byOf Go.Proofs.Try.prog 35 = 24 := by kernel_rfl
@[go_sem] theorem kn35 : known Go.Proofs.Try.prog 35 = true := by kernel_rfl
@[go_sem] theorem zk35 : zeroOk Go.Proofs.Try.prog 35 = true := by kernel_rfl
@[go_sem] theorem ze35 : zeOf Go.Proofs.Try.prog 35 = .nils := by kernel_rfl
@[go_sem] theorem ty50 : tyOf Go.Proofs.Try.prog 50 = .slice 3 := by kernel_rfl
@[go_sem] theorem sz50 : szOf Go.Proofs.Try.prog 50 = 1 := by kernel_rfl
@[go_sem] theorem by50 : byOf Go.Proofs.Try.prog 50 = 24 := by kernel_rfl
@[go_sem] theorem kn50 : known Go.Proofs.Try.prog 50 = true := by kernel_rfl
@[go_sem] theorem zk50 : zeroOk Go.Proofs.Try.prog 50 = true := by kernel_rfl
@[go_sem] theorem ze50 : zeOf Go.Proofs.Try.prog 50 = .nils := by kernel_rfl
@[go_sem] theorem ty54 : tyOf Go.Proofs.Try.prog 54 = .int .u64 := by kernel_rfl
@[go_sem] theorem sz54 : szOf Go.Proofs.Try.prog 54 = 1 := by kernel_rfl
@[go_sem] theorem by54 : byOf Go.Proofs.Try.prog 54 = 8 := by kernel_rfl
@[go_sem] theorem kn54 : known Go.Proofs.Try.prog 54 = true := by kernel_rfl
@[go_sem] theorem zk54 : zeroOk Go.Proofs.Try.prog 54 = true := by kernel_rfl
@[go_sem] theorem ze54 : zeOf Go.Proofs.Try.prog 54 = .int .u64 0 := by kernel_rfl
@[go_sem] theorem ty57 : tyOf Go.Proofs.Try.prog 57 = .ptr 76 := by kernel_rfl
@[go_sem] theorem sz57 : szOf Go.Proofs.Try.prog 57 = 1 := by kernel_rfl
@[go_sem] theorem by57 : byOf Go.Proofs.Try.prog 57 = 8 := by kernel_rfl
@[go_sem] theorem kn57 : known Go.Proofs.Try.prog 57 = true := by kernel_rfl
@[go_sem] theorem zk57 : zeroOk Go.Proofs.Try.prog 57 = true := by kernel_rfl
@[go_sem] theorem ze57 : zeOf Go.Proofs.Try.prog 57 = .undef := by kernel_rfl
@[go_sem] theorem ty60 : tyOf Go.Proofs.Try.prog 60 = .arr 16 5 := by kernel_rfl
@[go_sem] theorem sz60 : szOf Go.Proofs.Try.prog 60 = 16 := by kernel_rfl
@[go_sem] theorem by60 : byOf Go.Proofs.Try.prog 60 = 16 := by kernel_rfl
@[go_sem] theorem kn60 : known Go.Proofs.Try.prog 60 = true := by kernel_rfl
@[go_sem] theorem zk60 : zeroOk Go.Proofs.Try.prog 60 = true := by kernel_rfl
@[go_sem] theorem ze60 : zeOf Go.Proofs.Try.prog 60 = .agg [.int .u8 0, .int .u8 0, .int .u8 0, .int .u8 0, .int .u8 0, .int .u8 0, .int .u8 0, .int .u8 0, .int .u8 0, .int .u8 0, .int .u8 0, .int .u8 0, .int .u8 0, .int .u8 0, .int .u8 0, .int .u8 0] := by kernel_rfl
@[go_sem] theorem ty73 : tyOf Go.Proofs.Try.prog 73 = .arr 256 5 := by kernel_rfl
@[go_sem] theorem sz73 : szOf Go.Proofs.Try.prog 73 = 256 := by kernel_rfl
@[go_sem] theorem by73 : byOf Go.Proofs.Try.prog 73 = 256 := by kernel_rfl
@[go_sem] theorem kn73 : known Go.Proofs.Try.prog 73 = true := by kernel_rfl
@[go_sem] theorem zk73 : zeroOk Go.Proofs.Try.prog 73 = true := by kernel_rfl
@[go_sem] theorem ty74 : tyOf Go.Proofs.Try.prog 74 = .slice 60 := by kernel_rfl
@[go_sem] theorem sz74 : szOf Go.Proofs.Try.prog 74 = 1 := by kernel_rfl
@[go_sem] theorem by74 : byOf Go.Proofs.Try.prog 74 = 24 := by kernel_rfl
@[go_sem] theorem kn74 : known Go.Proofs.Try.prog 74 = true := by kernel_rfl
@[go_sem] theorem zk74 : zeroOk Go.Proofs.Try.prog 74 = true := by kernel_rfl
@[go_sem] theorem ze74 : zeOf Go.Proofs.Try.prog 74 = .nils := by kernel_rfl
@[go_sem] theorem ty76 : tyOf Go.Proofs.Try.prog 76 = .strct [(0, 73), (256, 73), (512, 74)] := by kernel_rfl
@[go_sem] theorem sz76 : szOf Go.Proofs.Try.prog 76 = 513 := by kernel_rfl
@[go_sem] theorem by76 : byOf Go.Proofs.Try.prog 76 = 536 := by kernel_rfl
@[go_sem] theorem kn76 : known Go.Proofs.Try.prog 76 = true := by kernel_rfl
@[go_sem] theorem zk76 : zeroOk Go.Proofs.Try.prog 76 = true := by kernel_rfl
@[go_sem] theorem fl76_0 : fldOf Go.Proofs.Try.prog 76 0 = some (0, 256, true) := by kernel_rfl
@[go_sem] theorem fl76_1 : fldOf Go.Proofs.Try.prog 76 1 = some (256, 256, true) := by kernel_rfl
@[go_sem] theorem fl76_2 : fldOf Go.Proofs.Try.prog 76 2 = some (512, 1, false) := by kernel_rfl
@[go_sem] theorem ft76 : flatTy Go.Proofs.Try.prog 76 = false := by kernel_rfl
@[go_sem] theorem ty78 : tyOf Go.Proofs.Try.prog 78 = .slice 79 := by kernel_rfl
@[go_sem] theorem sz78 : szOf Go.Proofs.Try.prog 78 = 1 := by kernel_rfl
@[go_sem] theorem by78 : byOf Go.Proofs.Try.prog 78 = 24 := by kernel_rfl
@[go_sem] theorem kn78 : known Go.Proofs.Try.prog 78 = true := by kernel_rfl
@[go_sem] theorem zk78 : zeroOk Go.Proofs.Try.prog 78 = true := by kernel_rfl
@[go_sem] theorem ze78 : zeOf Go.Proofs.Try.prog 78 = .nils := by kernel_rfl
@[go_sem] theorem ty79 : tyOf Go.Proofs.Try.prog 79 = .arr 4 5 := by kernel_rfl
@[go_sem] theorem sz79 : szOf Go.Proofs.Try.prog 79 = 4 := by kernel_rfl
@[go_sem] theorem by79 : byOf Go.Proofs.Try.prog 79 = 4 := by kernel_rfl
@[go_sem] theorem kn79 : known Go.Proofs.Try.prog 79 = true := by kernel_rfl
@[go_sem] theorem zk79 : zeroOk Go.Proofs.Try.prog 79 = true := by kernel_rfl
@[go_sem] theorem ze79 : zeOf Go.Proofs.Try.prog 79 = .agg [.int .u8 0, .int .u8 0, .int .u8 0, .int .u8 0] := by kernel_rfl
@[go_sem] theorem ty83 : tyOf Go.Proofs.Try.prog 83 = .func := by kernel_rfl
@[go_sem] theorem sz83 : szOf Go.Proofs.Try.prog 83 = 1 := by kernel_rfl
@[go_sem] theorem by83 : byOf Go.Proofs.Try.prog 83 = 8 := by kernel_rfl
@[go_sem] theorem kn83 : known Go.Proofs.Try.prog 83 = true := by kernel_rfl
@[go_sem] theorem zk83 : zeroOk Go.Proofs.Try.prog 83 = true := by kernel_rfl
@[go_sem] theorem ze83 : zeOf Go.Proofs.Try.prog 83 = .nilf := by kernel_rfl
@[go_sem] theorem ty84 : tyOf Go.Proofs.Try.prog 84 = .int .u32 := by kernel_rfl
@[go_sem] theorem sz84 : szOf Go.Proofs.Try.prog 84 = 1 := by kernel_rfl
@[go_sem] theorem by84 : byOf Go.Proofs.Try.prog 84 = 4 := by kernel_rfl
@[go_sem] theorem kn84 : known Go.Proofs.Try.prog 84 = true := by kernel_rfl
@[go_sem] theorem zk84 : zeroOk Go.Proofs.Try.prog 84 = true := by kernel_rfl
@[go_sem] theorem ze84 : zeOf Go.Proofs.Try.prog 84 = .int .u32 0 := by kernel_rfl
@[go_sem] theorem ty85 : tyOf Go.Proofs.Try.prog 85 = .slice 84 := by kernel_rfl
@[go_sem] theorem sz85 : szOf Go.Proofs.Try.prog 85 = 1 := by kernel_rfl
@[go_sem] theorem by85 : byOf Go.Proofs.Try.prog 85 = 24 := by kernel_rfl
@[go_sem] theorem kn85 : known Go.Proofs.Try.prog 85 = true := by kernel_rfl
@[go_sem] theorem zk85 : zeroOk Go.Proofs.Try.prog 85 = true := by kernel_rfl
@[go_sem] theorem ze85 : zeOf Go.Proofs.Try.prog 85 = .nils := by kernel_rfl
@[go_sem] theorem ty88 : tyOf Go.Proofs.Try.prog 88 = .arr 8 84 := by kernel_rfl
@[go_sem] theorem sz88 : szOf Go.Proofs.Try.prog 88 = 8 := by kernel_rfl
@[go_sem] theorem by88 : byOf Go.Proofs.Try.prog 88 = 32 := by kernel_rfl
@[go_sem] theorem kn88 : known Go.Proofs.Try.prog 88 = true := by kernel_rfl
@[go_sem] theorem zk88 : zeroOk Go.Proofs.Try.prog 88 = true := by kernel_rfl
@[go_sem] theorem ze88 : zeOf Go.Proofs.Try.prog 88 = .agg [.int .u32 0, .int .u32 0, .int .u32 0, .int .u32 0, .int .u32 0, .int .u32 0, .int .u32 0, .int .u32 0] := by kernel_rfl
@[go_sem] theorem ty89 : tyOf Go.Proofs.Try.prog 89 = .arr 64 84 := by kernel_rfl
@[go_sem] theorem sz89 : szOf Go.Proofs.Try.prog 89 = 64 := by kernel_rfl
@[go_sem] theorem by89 : byOf Go.Proofs.Try.prog 89 = 256 := by kernel_rfl
@[go_sem] theorem kn89 : known Go.Proofs.Try.prog 89 = true := by kernel_rfl
@[go_sem] theorem zk89 : zeroOk Go.Proofs.Try.prog 89 = true := by kernel_rfl
@[go_sem] theorem ty91 : tyOf Go.Proofs.Try.prog 91 = .func := by kernel_rfl
@[go_sem] theorem sz91 : szOf Go.Proofs.Try.prog 91 = 1 := by kernel_rfl
@[go_sem] theorem by91 : byOf Go.Proofs.Try.prog 91 = 8 := by kernel_rfl
@[go_sem] theorem kn91 : known Go.Proofs.Try.prog 91 = true := by kernel_rfl
@[go_sem] theorem zk91 : zeroOk Go.Proofs.Try.prog 91 = true := by kernel_rfl
@[go_sem] theorem ze91 : zeOf Go.Proofs.Try.prog 91 = .nilf := by kernel_rfl
@[go_sem] theorem ty92 : tyOf Go.Proofs.Try.prog 92 = .func := by kernel_rfl
@[go_sem] theorem sz92 : szOf Go.Proofs.Try.prog 92 = 1 := by kernel_rfl
@[go_sem] theorem by92 : byOf Go.Proofs.Try.prog 92 = 8 := by kernel_rfl
@[go_sem] theorem kn92 : known Go.Proofs.Try.prog 92 = true := by kernel_rfl
@[go_sem] theorem zk92 : zeroOk Go.Proofs.Try.prog 92 = true := by kernel_rfl
@[go_sem] theorem ze92 : zeOf Go.Proofs.Try.prog 92 = .nilf := by kernel_rfl
@[go_sem] theorem ty98 : tyOf Go.Proofs.Try.prog 98 = .func := by kernel_rfl
@[go_sem] theorem sz98 : szOf Go.Proofs.Try.prog 98 = 1 := by kernel_rfl
@[go_sem] theorem by98 : byOf Go.Proofs.Try.prog 98 = 8 := by kernel_rfl
@[go_sem] theorem kn98 : known Go.Proofs.Try.prog 98 = true := by kernel_rfl
@[go_sem] theorem zk98 : zeroOk Go.Proofs.Try.prog 98 = true := by kernel_rfl
@[go_sem] theorem ze98 : zeOf Go.Proofs.Try.prog 98 = .nilf := by kernel_rfl
@[go_sem] theorem an3 : ann 3 = { vs := [8, 9, 10, 11, 12] } := by kernel_rfl
@[go_sem] theorem an4 : ann 4 = { vs := [8, 9, 10, 11, 12] } := by kernel_rfl
@[go_sem] theorem an5 : ann 5 = { vs := [8, 9, 10] } := by kernel_rfl
@[go_sem] theorem an6 : ann 6 = { vs := [8, 9, 10] } := by kernel_rfl
@[go_sem] theorem an7 : ann 7 = { vs := [8, 9, 10, 11, 12] } := by kernel_rfl
@[go_sem] theorem an8 : ann 8 = { vs := [8, 9, 10, 11, 12] } := by kernel_rfl
@[go_sem] theorem an9 : ann 9 = { vs := [6] } := by kernel_rfl
@[go_sem] theorem an10 : ann 10 = { vs := [6] } := by kernel_rfl
@[go_sem] theorem an11 : ann 11 = { vs := [8] } := by kernel_rfl
@[go_sem] theorem an12 : ann 12 = { vs := [2] } := by kernel_rfl
@[go_sem] theorem an13 : ann 13 = { vs := [6] } := by kernel_rfl
@[go_sem] theorem an14 : ann 14 = { vs := [2] } := by kernel_rfl
@[go_sem] theorem an15 : ann 15 = { vs := [8] } := by kernel_rfl
@[go_sem] theorem an16 : ann 16 = { vs := [8, 9, 10, 11] } := by kernel_rfl
@[go_sem] theorem an17 : ann 17 = { vs := [8, 9, 10, 11] } := by kernel_rfl
@[go_sem] theorem an18 : ann 18 = { vs := [8, 9, 10, 11] } := by kernel_rfl
@[go_sem] theorem an19 : ann 19 = { vs := [4] } := by kernel_rfl
@[go_sem] theorem an20 : ann 20 = { vs := [4] } := by kernel_rfl
@[go_sem] theorem an21 : ann 21 = { vs := [2] } := by kernel_rfl
@[go_sem] theorem an22 : ann 22 = { vs := [6] } := by kernel_rfl
@[go_sem] theorem an23 : ann 23 = { vs := [2] } := by kernel_rfl
@[go_sem] theorem an24 : ann 24 = { vs := [8, 9, 10, 11] } := by kernel_rfl
@[go_sem] theorem an25 : ann 25 = { vs := [4] } := by kernel_rfl
@[go_sem] theorem an26 : ann 26 = { vs := [8, 9, 10, 11, 12] } := by kernel_rfl
@[go_sem] theorem an27 : ann 27 = { vs := [8, 9, 10, 11, 12] } := by kernel_rfl
@[go_sem] theorem an28 : ann 28 = { vs := [2, 3, 4] } := by kernel_rfl
@[go_sem] theorem an29 : ann 29 = { vs := [6, 7, 8, 9, 10, 11, 12], keep := [(0, [(1, .v), (7, .v), (8, .v), (9, .v), (10, .v)]), (2, [(1, .v), (7, .v), (8, .v), (9, .v), (10, .v), (11, .v), (12, .v)])] } := by kernel_rfl
@[go_sem] theorem an30 : ann 30 = { vs := [8, 9] } := by kernel_rfl
@[go_sem] theorem an31 : ann 31 = { vs := [2] } := by kernel_rfl
@[go_sem] theorem an32 : ann 32 = { vs := [4, 5, 7, 8], keep := [(0, [(0, .v), (1, .v), (7, .v), (8, .v)])] } := by kernel_rfl
@[go_sem] theorem an33 : ann 33 = { vs := [2, 3, 4] } := by kernel_rfl
@[go_sem] theorem an34 : ann 34 = { vs := [6, 7, 8, 9, 10, 11], keep := [(0, [(1, .v), (7, .v), (8, .v), (9, .v)]), (2, [(1, .v), (7, .v), (8, .v), (9, .v), (10, .v), (11, .v)])] } := by kernel_rfl
@[go_sem] theorem an35 : ann 35 = { vs := [8] } := by kernel_rfl
@[go_sem] theorem an36 : ann 36 = { vs := [4, 5, 6], keep := [(0, [(0, .v), (5, .v), (6, .v)])] } := by kernel_rfl
@[go_sem] theorem an37 : ann 37 = { vs := [6, 7, 8, 9], keep := [(0, [(0, .v), (1, .v), (2, .v), (7, .v), (8, .v), (9, .v)])] } := by kernel_rfl
@[go_sem] theorem an38 : ann 38 = { vs := [4, 5, 6, 7, 8], keep := [(0, [(0, .v), (1, .v), (5, .v), (6, .v), (7, .v)])] } := by kernel_rfl
@[go_sem] theorem an39 : ann 39 = { vs := [0, 1, 2, 3, 4, 5], keep := [(0, [(1, .v), (2, .v), (3, .v)]), (2, [(1, .v), (4, .v), (5, .v)])] } := by kernel_rfl
@[go_sem] theorem an40 : ann 40 = { vs := [4, 5, 6, 7, 8, 9, 10, 11, 12, 13, 14], keep := [(0, [(0, .v), (1, .v), (5, .v), (6, .o 1 true), (7, .v)]), (2, [(1, .v), (5, .v), (6, .o 1 true), (8, .v), (9, .v)]), (4, [(1, .v), (5, .v), (6, .v), (8, .v), (9, .v), (10, .v), (11, .v)]), (6, [(1, .v), (5, .v), (6, .v), (8, .v), (9, .v), (10, .v), (12, .v)]), (8, [(6, .v), (13, .o 1 true), (14, .v)])] } := by kernel_rfl
@[go_sem] theorem an41 : ann 41 = { vs := [6, 7, 8], keep := [(0, [(0, .v), (1, .v), (7, .o 1 true), (8, .v)])] } := by kernel_rfl
@[go_sem] theorem an42 : ann 42 = { vs := [6, 7, 8, 9], keep := [(0, [(0, .v), (1, .v), (2, .v), (7, .v), (8, .v), (9, .v)])] } := by kernel_rfl
@[go_sem] theorem an43 : ann 43 = { vs := [4] } := by kernel_rfl
@[go_sem] theorem an44 : ann 44 = { vs := [2, 3, 4, 5, 6, 7, 8, 9, 10, 11, 12, 13, 14, 17, 45, 46, 142, 170], keep := [(0, [(0, .v), (3, .v), (17, .v)]), (2, [(0, .v), (3, .v), (6, .v), (7, .v), (8, .v), (45, .v), (46, .v)]), (5, [(0, .v), (3, .v), (6, .v), (7, .v), (8, .v), (9, .v), (10, .v), (45, .v), (46, .v), (142, .v)]), (7, [(3, .v), (7, .v), (12, .v)]), (9, [(3, .v), (7, .v), (12, .v), (13, .v), (170, .v)])] } := by kernel_rfl
@[go_sem] theorem an45 : ann 45 = { vs := [2] } := by kernel_rfl
@[go_sem] theorem an46 : ann 46 = { vs := [3, 4, 5, 6, 7, 8, 9, 29], keep := [(0, [(0, .v), (3, .v), (4, .v), (5, .v), (6, .v)]), (2, [(0, .v), (3, .v), (4, .v), (5, .v), (6, .v), (7, .v), (29, .v)])] } := by kernel_rfl
@[go_sem] theorem an47 : ann 47 = { vs := [2, 3, 4, 5, 6, 7, 8, 9], keep := [(0, [(0, .v), (3, .v), (4, .o 1 true)]), (2, [(0, .v), (3, .v), (4, .o 1 true), (5, .v)]), (4, [(3, .v), (4, .v), (6, .v), (7, .v)]), (6, [(3, .v), (8, .o 1 true), (9, .v)])] } := by kernel_rfl
@[go_sem] theorem an48 : ann 48 = { vs := [2] } := by kernel_rfl
@[go_sem] theorem an49 : ann 49 = { vs := [2, 3, 4], keep := [(0, [(0, .v), (3, .v), (4, .v)])] } := by kernel_rfl
@[go_sem] theorem an50 : ann 50 = { vs := [4, 5, 6], keep := [(0, [(0, .v), (1, .v), (5, .v), (6, .v)])] } := by kernel_rfl
@[go_sem] theorem an51 : ann 51 = { vs := [2, 3, 4], keep := [(0, [(0, .v), (3, .o 1 true), (4, .v)])] } := by kernel_rfl
@[go_sem] theorem an52 : ann 52 = { vs := [4], keep := [(0, [(0, .v), (1, .v), (4, .v)])], modes := [.l] } := by kernel_rfl
@[go_sem] theorem an53 : ann 53 = { vs := [4], keep := [(0, [(0, .v), (1, .v), (4, .v)])], modes := [.l] } := by kernel_rfl
@[go_sem] theorem an54 : ann 54 = { vs := [4, 5, 6, 7], keep := [(0, [(0, .v), (1, .v), (5, .v), (6, .v)]), (2, [(0, .v), (1, .v), (5, .v), (6, .v), (7, .v)])] } := by kernel_rfl
@[go_sem] theorem an55 : ann 55 = { vs := [2, 3, 4, 5, 6], keep := [(0, [(0, .v), (3, .v), (4, .v)]), (2, [(0, .v), (3, .v), (4, .v), (5, .v), (6, .v)])] } := by kernel_rfl
@[go_sem] theorem an56 : ann 56 = { vs := [2, 3, 4], keep := [(0, [(0, .v), (3, .o 1 true), (4, .v)])] } := by kernel_rfl
@[go_sem] theorem an57 : ann 57 = { vs := [2, 3, 4, 5, 6, 7, 9, 38, 39], keep := [(0, [(0, .v), (3, .o 1 true), (6, .v)]), (4, [(7, .v), (38, .v), (39, .v)])] } := by kernel_rfl
@[go_sem] theorem an58 : ann 58 = { vs := [4, 5, 6, 12, 13], keep := [(0, [(1, .v), (5, .v), (12, .v), (13, .v)])] } := by kernel_rfl
@[go_sem] theorem an59 : ann 59 = { vs := [2, 3] } := by kernel_rfl
@[go_sem] theorem an60 : ann 60 = { vs := [4, 5, 6], keep := [(0, [(1, .v), (5, .v), (6, .v)])] } := by kernel_rfl
@[go_sem] theorem an61 : ann 61 = { vs := [2, 3, 4, 5, 6], keep := [(0, [(2, .v), (3, .v), (4, .v), (6, .v)])] } := by kernel_rfl
@[go_sem] theorem an62 : ann 62 = { vs := [2, 4, 5, 6], keep := [(0, [(1, .v), (2, .v), (4, .v), (5, .v)])] } := by kernel_rfl
@[go_sem] theorem an63 : ann 63 = { vs := [1, 2, 3, 4, 5, 17], keep := [(0, [(1, .v), (2, .v), (3, .v), (4, .v), (17, .v)])] } := by kernel_rfl
@[go_sem] theorem an64 : ann 64 = { vs := [0] } := by kernel_rfl
@[go_sem] theorem an65 : ann 65 = { vs := [6, 7, 8, 9, 10, 11, 12, 13, 14, 15, 16, 17], keep := [(0, [(0, .v), (1, .v), (2, .v), (6, .v), (7, .v)]), (2, [(0, .v), (2, .v), (6, .v), (8, .v)]), (4, [(0, .v), (2, .v), (6, .v), (11, .o 1 true), (12, .v)]), (6, [(0, .v), (11, .v), (17, .v)])], modes := [.l] } := by kernel_rfl
@[go_sem] theorem an66 : ann 66 = { vs := [0] } := by kernel_rfl
@[go_sem] theorem an67 : ann 67 = { vs := [2, 3, 4] } := by kernel_rfl
@[go_sem] theorem an68 : ann 68 = { vs := [3, 4, 5, 6, 7, 8, 9, 10, 11, 12, 13, 15, 95], keep := [(0, [(3, .v), (4, .v), (5, .v), (6, .v), (7, .v), (15, .v)]), (2, [(3, .v), (6, .v), (7, .v), (95, .v)])] } := by kernel_rfl
@[go_sem] theorem an69 : ann 69 = { vs := [2, 3, 4, 6, 7, 8, 9, 10, 11, 22, 23, 24], keep := [(0, [(0, .v), (2, .v), (3, .v), (11, .v)]), (2, [(0, .v), (2, .v), (3, .v), (4, .v), (11, .v), (22, .v), (23, .v), (24, .v)])] } := by kernel_rfl
@[go_sem] theorem an70 : ann 70 = { vs := [2, 3, 4, 6], keep := [(0, [(3, .v), (4, .v), (6, .v)])] } := by kernel_rfl
@[go_sem] theorem an71 : ann 71 = { vs := [4, 5] } := by kernel_rfl
@[go_sem] theorem an72 : ann 72 = { vs := [2] } := by kernel_rfl
@[go_sem] theorem an73 : ann 73 = { vs := [4] } := by kernel_rfl
@[go_sem] theorem an74 : ann 74 = { vs := [4, 5], keep := [(0, [(0, .v), (1, .v), (2, .v), (4, .v)])] } := by kernel_rfl
@[go_sem] theorem an75 : ann 75 = { vs := [4] } := by kernel_rfl
@[go_sem] theorem an76 : ann 76 = { vs := [4, 5] } := by kernel_rfl
@[go_sem] theorem an0 : ann 0 = {} := by kernel_rfl
@[go_sem] theorem an1 : ann 1 = {} := by kernel_rfl
@[go_sem] theorem an2 : ann 2 = {} := by kernel_rfl
@[go_sem] theorem an77 : ann 77 = {} := by kernel_rfl
@[go_sem] theorem an78 : ann 78 = {} := by kernel_rfl
@[go_sem] theorem an79 : ann 79 = {} := by kernel_rfl
@[go_sem] theorem an80 : ann 80 = {} := by kernel_rfl
@[go_sem] theorem an81 : ann 81 = {} := by kernel_rfl
@[go_sem] theorem an82 : ann 82 = {} := by kernel_rfl
@[go_sem] theorem an83 : ann 83 = {} := by kernel_rfl
@[go_sem] theorem an84 : ann 84 = {} := by kernel_rfl
@[go_sem] theorem an85 : ann 85 = {} := by kernel_rfl
@[go_sem] theorem an86 : ann 86 = {} := by kernel_rfl
@[go_sem] theorem an87 : ann 87 = {} := by kernel_rfl
@[go_sem] theorem an88 : ann 88 = {} := by kernel_rfl
@[go_sem] theorem an89 : ann 89 = {} := by kernel_rfl
@[go_sem] theorem an90 : ann 90 = {} := by kernel_rfl
@[go_sem] theorem an91 : ann 91 = {} := by kernel_rfl
@[go_sem] theorem an92 : ann 92 = {} := by kernel_rfl
@[go_sem] theorem an93 : ann 93 = {} := by kernel_rfl
@[go_sem] theorem re2 : Go.Proofs.Try.f2.results.toList = [] := rfl
@[go_sem] theorem re3 : Go.Proofs.Try.f3.results.toList = [.tmp 8] := rfl
@[go_sem] theorem re4 : Go.Proofs.Try.f4.results.toList = [.tmp 8] := rfl
@[go_sem] theorem re5 : Go.Proofs.Try.f5.results.toList = [.tmp 8, .tmp 9] := rfl
@[go_sem] theorem re6 : Go.Proofs.Try.f6.results.toList = [.tmp 8, .tmp 9] := rfl
@[go_sem] theorem re7 : Go.Proofs.Try.f7.results.toList = [.tmp 8, .tmp 9] := rfl
@[go_sem] theorem re8 : Go.Proofs.Try.f8.results.toList = [.tmp 8, .tmp 9] := rfl
@[go_sem] theorem re9 : Go.Proofs.Try.f9.results.toList = [.tmp 6] := rfl
@[go_sem] theorem re10 : Go.Proofs.Try.f10.results.toList = [.tmp 6] := rfl
@[go_sem] theorem re11 : Go.Proofs.Try.f11.results.toList = [.tmp 8] := rfl
@[go_sem] theorem re12 : Go.Proofs.Try.f12.results.toList = [.tmp 2] := rfl
@[go_sem] theorem re13 : Go.Proofs.Try.f13.results.toList = [.tmp 6] := rfl
@[go_sem] theorem re14 : Go.Proofs.Try.f14.results.toList = [.tmp 2] := rfl
@[go_sem] theorem re15 : Go.Proofs.Try.f15.results.toList = [.tmp 8] := rfl
@[go_sem] theorem re16 : Go.Proofs.Try.f16.results.toList = [.tmp 8, .tmp 9] := rfl
@[go_sem] theorem re17 : Go.Proofs.Try.f17.results.toList = [.tmp 8, .tmp 9] := rfl
@[go_sem] theorem re18 : Go.Proofs.Try.f18.results.toList = [.tmp 8] := rfl
@[go_sem] theorem re19 : Go.Proofs.Try.f19.results.toList = [.tmp 4] := rfl
@[go_sem] theorem re20 : Go.Proofs.Try.f20.results.toList = [.tmp 4] := rfl
@[go_sem] theorem re21 : Go.Proofs.Try.f21.results.toList = [.tmp 2] := rfl
@[go_sem] theorem re22 : Go.Proofs.Try.f22.results.toList = [.tmp 6] := rfl
@[go_sem] theorem re23 : Go.Proofs.Try.f23.results.toList = [.tmp 2] := rfl
@[go_sem] theorem re24 : Go.Proofs.Try.f24.results.toList = [.tmp 8] := rfl
@[go_sem] theorem re25 : Go.Proofs.Try.f25.results.toList = [.tmp 4] := rfl
@[go_sem] theorem re26 : Go.Proofs.Try.f26.results.toList = [.tmp 8, .tmp 9] := rfl
@[go_sem] theorem re27 : Go.Proofs.Try.f27.results.toList = [.tmp 8, .tmp 9] := rfl
@[go_sem] theorem re28 : Go.Proofs.Try.f28.results.toList = [.tmp 2, .tmp 3] := rfl
@[go_sem] theorem re29 : Go.Proofs.Try.f29.results.toList = [.tmp 6] := rfl
@[go_sem] theorem re30 : Go.Proofs.Try.f30.results.toList = [.tmp 8] := rfl
@[go_sem] theorem re31 : Go.Proofs.Try.f31.results.toList = [.tmp 2] := rfl
@[go_sem] theorem re32 : Go.Proofs.Try.f32.results.toList = [.tmp 4] := rfl
@[go_sem] theorem re33 : Go.Proofs.Try.f33.results.toList = [.tmp 2, .tmp 3] := rfl
@[go_sem] theorem re34 : Go.Proofs.Try.f34.results.toList = [.tmp 6] := rfl
@[go_sem] theorem re35 : Go.Proofs.Try.f35.results.toList = [.tmp 8] := rfl
@[go_sem] theorem re36 : Go.Proofs.Try.f36.results.toList = [.tmp 4] := rfl
@[go_sem] theorem re37 : Go.Proofs.Try.f37.results.toList = [.tmp 6] := rfl
@[go_sem] theorem re38 : Go.Proofs.Try.f38.results.toList = [.tmp 4] := rfl
@[go_sem] theorem re39 : Go.Proofs.Try.f39.results.toList = [.tmp 0] := rfl
@[go_sem] theorem re40 : Go.Proofs.Try.f40.results.toList = [.tmp 4] := rfl
@[go_sem] theorem re41 : Go.Proofs.Try.f41.results.toList = [.tmp 6] := rfl
@[go_sem] theorem re42 : Go.Proofs.Try.f42.results.toList = [.tmp 6] := rfl
@[go_sem] theorem re43 : Go.Proofs.Try.f43.results.toList = [.tmp 4] := rfl
@[go_sem] theorem re44 : Go.Proofs.Try.f44.results.toList = [.tmp 2] := rfl
@[go_sem] theorem re45 : Go.Proofs.Try.f45.results.toList = [.tmp 2] := rfl
@[go_sem] theorem re46 : Go.Proofs.Try.f46.results.toList = [.cell 4 60] := rfl
@[go_sem] theorem re47 : Go.Proofs.Try.f47.results.toList = [.tmp 2] := rfl
@[go_sem] theorem re48 : Go.Proofs.Try.f48.results.toList = [.tmp 2] := rfl
@[go_sem] theorem re49 : Go.Proofs.Try.f49.results.toList = [.tmp 2] := rfl
@[go_sem] theorem re50 : Go.Proofs.Try.f50.results.toList = [.tmp 4] := rfl
@[go_sem] theorem re51 : Go.Proofs.Try.f51.results.toList = [.tmp 2] := rfl
@[go_sem] theorem re52 : Go.Proofs.Try.f52.results.toList = [] := rfl
@[go_sem] theorem re53 : Go.Proofs.Try.f53.results.toList = [] := rfl
@[go_sem] theorem re54 : Go.Proofs.Try.f54.results.toList = [.tmp 4] := rfl
@[go_sem] theorem re55 : Go.Proofs.Try.f55.results.toList = [.tmp 2] := rfl
@[go_sem] theorem re56 : Go.Proofs.Try.f56.results.toList = [.tmp 2] := rfl
@[go_sem] theorem re57 : Go.Proofs.Try.f57.results.toList = [.tmp 2] := rfl
@[go_sem] theorem re58 : Go.Proofs.Try.f58.results.toList = [.tmp 4] := rfl
@[go_sem] theorem re59 : Go.Proofs.Try.f59.results.toList = [.tmp 2] := rfl
@[go_sem] theorem re60 : Go.Proofs.Try.f60.results.toList = [.tmp 4] := rfl
@[go_sem] theorem re61 : Go.Proofs.Try.f61.results.toList = [.cell 4 60] := rfl
@[go_sem] theorem re62 : Go.Proofs.Try.f62.results.toList = [.cell 4 60] := rfl
@[go_sem] theorem re63 : Go.Proofs.Try.f63.results.toList = [.cell 2 79] := rfl
@[go_sem] theorem re64 : Go.Proofs.Try.f64.results.toList = [.tmp 0] := rfl
@[go_sem] theorem re65 : Go.Proofs.Try.f65.results.toList = [] := rfl
@[go_sem] theorem re66 : Go.Proofs.Try.f66.results.toList = [.cell 0 89] := rfl
@[go_sem] theorem re67 : Go.Proofs.Try.f67.results.toList = [.tmp 4] := rfl
@[go_sem] theorem re68 : Go.Proofs.Try.f68.results.toList = [.cell 6 88] := rfl
@[go_sem] theorem re69 : Go.Proofs.Try.f69.results.toList = [.cell 2 89] := rfl
@[go_sem] theorem re70 : Go.Proofs.Try.f70.results.toList = [.tmp 2] := rfl
@[go_sem] theorem re71 : Go.Proofs.Try.f71.results.toList = [.tmp 4] := rfl
@[go_sem] theorem re72 : Go.Proofs.Try.f72.results.toList = [.tmp 2] := rfl
@[go_sem] theorem re73 : Go.Proofs.Try.f73.results.toList = [.tmp 4] := rfl
@[go_sem] theorem re74 : Go.Proofs.Try.f74.results.toList = [] := rfl
@[go_sem] theorem re75 : Go.Proofs.Try.f75.results.toList = [.tmp 4] := rfl
@[go_sem] theorem re76 : Go.Proofs.Try.f76.results.toList = [.tmp 4] := rfl
end Go.Proofs.Ytbgijachckondaa.Ev
