/- Annotations of the functions, and facts of types, by gen.py. No condition. -/
import Derived.Test.YtnboldeohbihmaaEvStep
import Derived.Test.YtnboldeohbihmaaEvCore
import Derived.Test.YtnboldeohbihmaaProg
namespace Go.Proofs.Ytnboldeohbihmaa.Ev
open Go
def annL : List (Nat × Ann) := [
  (3, { vs := [2, 3, 4, 5, 6, 7, 8, 9, 10, 11, 12, 13] }),
  (4, { vs := [4, 5, 6, 7, 8, 9, 10, 11, 13, 14, 15, 16, 17, 18, 19, 21], keep := [(0, [(7, .v), (9, .v), (17, .v), (21, .v)])] }),
  (5, { vs := [4, 5], keep := [(0, [(0, .v), (1, .v), (5, .v)])] }),
  (6, { vs := [2, 3] }),
  (7, { vs := [2, 3, 4], keep := [(0, [(0, .v), (3, .v), (4, .v)])] }),
  (8, { vs := [2, 3] }),
  (9, { vs := [4, 5], keep := [(0, [(0, .v), (1, .v), (5, .v)])] }),
  (10, { vs := [4, 5], keep := [(0, [(0, .v), (1, .v), (5, .v)])] }),
  (11, { vs := [4, 5], keep := [(0, [(0, .v), (1, .v), (5, .v)])], modes := [.l] }),
  (12, { vs := [4, 5], keep := [(0, [(0, .v), (1, .v), (5, .v)])], modes := [.l] }),
  (13, { vs := [4, 5], keep := [(0, [(0, .v), (1, .v), (5, .v)])] }),
  (14, { vs := [2] }),
  (15, { vs := [2, 3] }),
  (16, { vs := [2, 3] }),
  (17, { vs := [2, 3] }),
  (18, { vs := [4, 5, 6, 7, 8, 25, 26, 27], keep := [(1, [(0, .v), (6, .o 1 true), (25, .v), (26, .v), (27, .v)])] }),
  (19, { vs := [4, 5] }),
  (20, { vs := [4, 5], keep := [(0, [(0, .v), (1, .v), (5, .v)])] }),
  (21, { vs := [4, 5], keep := [(0, [(0, .v), (1, .v), (5, .v)])] }),
  (22, { vs := [4, 5], keep := [(0, [(0, .v), (1, .v), (5, .v)])] }),
  (23, { vs := [2, 3], keep := [(0, [(0, .v), (3, .v)])] }),
  (24, { vs := [2, 3, 4], keep := [(0, [(0, .v), (3, .o 1 true), (4, .v)])] }),
  (25, { vs := [2] }),
  (26, { vs := [2, 3, 4, 5, 6, 7], keep := [(0, [(0, .v), (5, .v), (6, .v), (7, .v)])] }),
  (27, { vs := [4, 5, 7, 8, 10, 12, 39, 40, 41, 63, 64, 65], keep := [(1, [(0, .v), (1, .v), (5, .v), (39, .v), (40, .v), (41, .v)]), (3, [(1, .v), (8, .v), (63, .v), (64, .v), (65, .v)])] }),
  (28, { vs := [2, 3], keep := [(0, [(0, .v), (3, .v)])] }),
  (29, { vs := [2] }),
  (30, { vs := [2] }),
  (31, { vs := [2] }),
  (32, { vs := [2, 3, 4], keep := [(0, [(0, .v), (3, .o 1 true)]), (1000004, [])] }),
  (33, { vs := [2, 3, 4], keep := [(0, [(0, .v), (3, .o 1 true), (4, .v)])] }),
  (34, { vs := [6] }),
  (35, { vs := [2] }),
  (36, { vs := [4, 5, 6], keep := [(0, [(0, .v), (1, .v), (5, .o 1 true), (6, .v)])] }),
  (37, { vs := [6] }),
  (39, { vs := [4, 5] }),
  (40, { vs := [2] }),
  (41, { vs := [4, 5, 6], keep := [(0, [(0, .v), (5, .o 1 true), (6, .v)])] }),
  (42, { vs := [4, 5, 6, 7] }),
  (43, { vs := [4] }),
  (44, { vs := [2] }),
  (46, { vs := [4] }),
  (47, { vs := [2] }),
  (48, { vs := [4, 5, 7, 8], keep := [(0, [(0, .v), (1, .v), (7, .v), (8, .v)])] })]
def annOf : List (Nat × Ann) → Nat → Ann
  | [], _ => {}
  | (k, a) :: l, f => if k = f then a else annOf l f
def ann (f : FuncId) : Ann := annOf annL f
@[go_sem] theorem ty3 : tyOf Go.Proofs.Try.prog 3 = .int .i64 := by kernel_rfl
@[go_sem] theorem sz3 : szOf Go.Proofs.Try.prog 3 = 1 := by kernel_rfl
@[go_sem] theorem by3 : byOf Go.Proofs.Try.prog 3 = 8 := by kernel_rfl
@[go_sem] theorem kn3 : known Go.Proofs.Try.prog 3 = true := by kernel_rfl
@[go_sem] theorem zk3 : zeroOk Go.Proofs.Try.prog 3 = true := by kernel_rfl
@[go_sem] theorem ze3 : zeOf Go.Proofs.Try.prog 3 = .int .i64 0 := by kernel_rfl
@[go_sem] theorem ty4 : tyOf Go.Proofs.Try.prog 4 = .bool := by kernel_rfl
@[go_sem] theorem sz4 : szOf Go.Proofs.Try.prog 4 = 1 := by kernel_rfl
@[go_sem] theorem by4 : byOf Go.Proofs.Try.prog 4 = 1 := by kernel_rfl
@[go_sem] theorem kn4 : known Go.Proofs.Try.prog 4 = true := by kernel_rfl
@[go_sem] theorem zk4 : zeroOk Go.Proofs.Try.prog 4 = true := by kernel_rfl
@[go_sem] theorem ze4 : zeOf Go.Proofs.Try.prog 4 = .bool false := by kernel_rfl
@[go_sem] theorem ty5 : tyOf Go.Proofs.Try.prog 5 = .int .u8 := by kernel_rfl
@[go_sem] theorem sz5 : szOf Go.Proofs.Try.prog 5 = 1 := by kernel_rfl
@[go_sem] theorem by5 : byOf Go.Proofs.Try.prog 5 = 1 := by kernel_rfl
@[go_sem] theorem kn5 : known Go.Proofs.Try.prog 5 = true := by kernel_rfl
@[go_sem] theorem zk5 : zeroOk Go.Proofs.Try.prog 5 = true := by kernel_rfl
@[go_sem] theorem ze5 : zeOf Go.Proofs.Try.prog 5 = .int .u8 0 := by kernel_rfl
@[go_sem] theorem ty9 : tyOf Go.Proofs.Try.prog 9 = .str := by kernel_rfl
@[go_sem] theorem sz9 : szOf Go.Proofs.Try.prog 9 = 1 := by kernel_rfl
@[go_sem] theorem by9 : byOf Go.Proofs.Try.prog 9 = 16 := by kernel_rfl
@[go_sem] theorem kn9 : known Go.Proofs.Try.prog 9 = true := by kernel_rfl
@[go_sem] theorem zk9 : zeroOk Go.Proofs.Try.prog 9 = true := by kernel_rfl
@[go_sem] theorem ze9 : zeOf Go.Proofs.Try.prog 9 = .str [] := by kernel_rfl
@[go_sem] theorem ty22 : tyOf Go.Proofs.Try.prog 22 = .slice 9 := by kernel_rfl
@[go_sem] theorem sz22 : szOf Go.Proofs.Try.prog 22 = 1 := by kernel_rfl
@[go_sem] theorem by22 : byOf Go.Proofs.Try.prog 22 = 24 := by kernel_rfl
@[go_sem] theorem kn22 : known Go.Proofs.Try.prog 22 = true := by kernel_rfl
@[go_sem] theorem zk22 : zeroOk Go.Proofs.Try.prog 22 = true := by kernel_rfl
@[go_sem] theorem ze22 : zeOf Go.Proofs.Try.prog 22 = .nils := by kernel_rfl
@[go_sem] theorem ty24 : tyOf Go.Proofs.Try.prog 24 = .slice 5 := by kernel_rfl
@[go_sem] theorem sz24 : szOf Go.Proofs.Try.prog 24 = 1 := by kernel_rfl
@[go_sem] theorem by24 : byOf Go.Proofs.Try.prog 24 = 24 := by kernel_rfl
@[go_sem] theorem kn24 : known Go.Proofs.Try.prog 24 = true := by kernel_rfl
@[go_sem] theorem zk24 : zeroOk Go.Proofs.Try.prog 24 = true := by kernel_rfl
@[go_sem] theorem ze24 : zeOf Go.Proofs.Try.prog 24 = .nils := by kernel_rfl
@[go_sem] theorem ty37 : tyOf Go.Proofs.Try.prog 37 = .slice 3 := by kernel_rfl
@[go_sem] theorem sz37 : szOf Go.Proofs.Try.prog 37 = 1 := by kernel_rfl
@[go_sem] theorem by37 : byOf Go.Proofs.Try.prog 37 = 24 := by kernel_rfl
@[go_sem] theorem kn37 : known Go.Proofs.Try.prog 37 = true := by kernel_rfl
@[go_sem] theorem zk37 : zeroOk Go.Proofs.Try.prog 37 = true := by kernel_rfl
@[go_sem] theorem ze37 : zeOf Go.Proofs.Try.prog 37 = .nils := by kernel_rfl
@[go_sem] theorem ty45 : tyOf Go.Proofs.Try.prog 45 = .ptr 64 := by kernel_rfl
@[go_sem] theorem sz45 : szOf Go.Proofs.Try.prog 45 = 1 := by kernel_rfl
@[go_sem] theorem by45 : byOf Go.Proofs.Try.prog 45 = 8 := by kernel_rfl
@[go_sem] theorem kn45 : known Go.Proofs.Try.prog 45 = true := by kernel_rfl
@[go_sem] theorem zk45 : zeroOk Go.Proofs.Try.prog 45 = true := by kernel_rfl
@[go_sem] theorem ze45 : zeOf Go.Proofs.Try.prog 45 = .undef := by kernel_rfl
@[go_sem] theorem ty54 : tyOf Go.Proofs.Try.prog 54 = .ptr 56 := by kernel_rfl
@[go_sem] theorem sz54 : szOf Go.Proofs.Try.prog 54 = 1 := by kernel_rfl
@[go_sem] theorem by54 : byOf Go.Proofs.Try.prog 54 = 8 := by kernel_rfl
@[go_sem] theorem kn54 : known Go.Proofs.Try.prog 54 = true := by kernel_rfl
@[go_sem] theorem zk54 : zeroOk Go.Proofs.Try.prog 54 = true := by kernel_rfl
@[go_sem] theorem ze54 : zeOf Go.Proofs.Try.prog 54 = .undef := by kernel_rfl
@[go_sem] theorem ty56 : tyOf Go.Proofs.Try.prog 56 = .strct [(0, 54), (1, 24)] := by kernel_rfl
@[go_sem] theorem sz56 : szOf Go.Proofs.Try.prog 56 = 2 := by kernel_rfl
@[go_sem] theorem by56 : byOf Go.Proofs.Try.prog 56 = 32 := by kernel_rfl
@[go_sem] theorem kn56 : known Go.Proofs.Try.prog 56 = true := by kernel_rfl
@[go_sem] theorem zk56 : zeroOk Go.Proofs.Try.prog 56 = true := by kernel_rfl
@[go_sem] theorem ze56 : zeOf Go.Proofs.Try.prog 56 = .agg [.undef, .nils] := by kernel_rfl
@[go_sem] theorem fl56_0 : fldOf Go.Proofs.Try.prog 56 0 = some (0, 1, false) := by kernel_rfl
@[go_sem] theorem fl56_1 : fldOf Go.Proofs.Try.prog 56 1 = some (1, 1, false) := by kernel_rfl
@[go_sem] theorem ft56 : flatTy Go.Proofs.Try.prog 56 = false := by kernel_rfl
@[go_sem] theorem ty64 : tyOf Go.Proofs.Try.prog 64 = .strct [(0, 24), (1, 3), (2, 3)] := by kernel_rfl
@[go_sem] theorem sz64 : szOf Go.Proofs.Try.prog 64 = 3 := by kernel_rfl
@[go_sem] theorem by64 : byOf Go.Proofs.Try.prog 64 = 40 := by kernel_rfl
@[go_sem] theorem kn64 : known Go.Proofs.Try.prog 64 = true := by kernel_rfl
@[go_sem] theorem zk64 : zeroOk Go.Proofs.Try.prog 64 = true := by kernel_rfl
@[go_sem] theorem ze64 : zeOf Go.Proofs.Try.prog 64 = .agg [.nils, .int .i64 0, .int .i64 0] := by kernel_rfl
@[go_sem] theorem fl64_0 : fldOf Go.Proofs.Try.prog 64 0 = some (0, 1, false) := by kernel_rfl
@[go_sem] theorem fl64_1 : fldOf Go.Proofs.Try.prog 64 1 = some (1, 1, false) := by kernel_rfl
@[go_sem] theorem fl64_2 : fldOf Go.Proofs.Try.prog 64 2 = some (2, 1, false) := by kernel_rfl
@[go_sem] theorem ft64 : flatTy Go.Proofs.Try.prog 64 = false := by kernel_rfl
@[go_sem] theorem ty66 : tyOf Go.Proofs.Try.prog 66 = .slice 24 := by kernel_rfl
@[go_sem] theorem sz66 : szOf Go.Proofs.Try.prog 66 = 1 := by kernel_rfl
@[go_sem] theorem by66 : byOf Go.Proofs.Try.prog 66 = 24 := by kernel_rfl
@[go_sem] theorem kn66 : known Go.Proofs.Try.prog 66 = true := by kernel_rfl
@[go_sem] theorem zk66 : zeroOk Go.Proofs.Try.prog 66 = true := by kernel_rfl
@[go_sem] theorem ze66 : zeOf Go.Proofs.Try.prog 66 = .nils := by kernel_rfl
@[go_sem] theorem ty68 : tyOf Go.Proofs.Try.prog 68 = .func := by kernel_rfl
@[go_sem] theorem sz68 : szOf Go.Proofs.Try.prog 68 = 1 := by kernel_rfl
@[go_sem] theorem by68 : byOf Go.Proofs.Try.prog 68 = 8 := by kernel_rfl
@[go_sem] theorem kn68 : known Go.Proofs.Try.prog 68 = true := by kernel_rfl
@[go_sem] theorem zk68 : zeroOk Go.Proofs.Try.prog 68 = true := by kernel_rfl
@[go_sem] theorem ze68 : zeOf Go.Proofs.Try.prog 68 = .nilf := by kernel_rfl
@[go_sem] theorem ty69 : tyOf Go.Proofs.Try.prog 69 = .ptr 5 := by kernel_rfl
@[go_sem] theorem sz69 : szOf Go.Proofs.Try.prog 69 = 1 := by kernel_rfl
@[go_sem] theorem by69 : byOf Go.Proofs.Try.prog 69 = 8 := by kernel_rfl
@[go_sem] theorem kn69 : known Go.Proofs.Try.prog 69 = true := by kernel_rfl
@[go_sem] theorem zk69 : zeroOk Go.Proofs.Try.prog 69 = true := by kernel_rfl
@[go_sem] theorem ze69 : zeOf Go.Proofs.Try.prog 69 = .undef := by kernel_rfl
@[go_sem] theorem an3 : ann 3 = { vs := [2, 3, 4, 5, 6, 7, 8, 9, 10, 11, 12, 13] } := by kernel_rfl
@[go_sem] theorem an4 : ann 4 = { vs := [4, 5, 6, 7, 8, 9, 10, 11, 13, 14, 15, 16, 17, 18, 19, 21], keep := [(0, [(7, .v), (9, .v), (17, .v), (21, .v)])] } := by kernel_rfl
@[go_sem] theorem an5 : ann 5 = { vs := [4, 5], keep := [(0, [(0, .v), (1, .v), (5, .v)])] } := by kernel_rfl
@[go_sem] theorem an6 : ann 6 = { vs := [2, 3] } := by kernel_rfl
@[go_sem] theorem an7 : ann 7 = { vs := [2, 3, 4], keep := [(0, [(0, .v), (3, .v), (4, .v)])] } := by kernel_rfl
@[go_sem] theorem an8 : ann 8 = { vs := [2, 3] } := by kernel_rfl
@[go_sem] theorem an9 : ann 9 = { vs := [4, 5], keep := [(0, [(0, .v), (1, .v), (5, .v)])] } := by kernel_rfl
@[go_sem] theorem an10 : ann 10 = { vs := [4, 5], keep := [(0, [(0, .v), (1, .v), (5, .v)])] } := by kernel_rfl
@[go_sem] theorem an11 : ann 11 = { vs := [4, 5], keep := [(0, [(0, .v), (1, .v), (5, .v)])], modes := [.l] } := by kernel_rfl
@[go_sem] theorem an12 : ann 12 = { vs := [4, 5], keep := [(0, [(0, .v), (1, .v), (5, .v)])], modes := [.l] } := by kernel_rfl
@[go_sem] theorem an13 : ann 13 = { vs := [4, 5], keep := [(0, [(0, .v), (1, .v), (5, .v)])] } := by kernel_rfl
@[go_sem] theorem an14 : ann 14 = { vs := [2] } := by kernel_rfl
@[go_sem] theorem an15 : ann 15 = { vs := [2, 3] } := by kernel_rfl
@[go_sem] theorem an16 : ann 16 = { vs := [2, 3] } := by kernel_rfl
@[go_sem] theorem an17 : ann 17 = { vs := [2, 3] } := by kernel_rfl
@[go_sem] theorem an18 : ann 18 = { vs := [4, 5, 6, 7, 8, 25, 26, 27], keep := [(1, [(0, .v), (6, .o 1 true), (25, .v), (26, .v), (27, .v)])] } := by kernel_rfl
@[go_sem] theorem an19 : ann 19 = { vs := [4, 5] } := by kernel_rfl
@[go_sem] theorem an20 : ann 20 = { vs := [4, 5], keep := [(0, [(0, .v), (1, .v), (5, .v)])] } := by kernel_rfl
@[go_sem] theorem an21 : ann 21 = { vs := [4, 5], keep := [(0, [(0, .v), (1, .v), (5, .v)])] } := by kernel_rfl
@[go_sem] theorem an22 : ann 22 = { vs := [4, 5], keep := [(0, [(0, .v), (1, .v), (5, .v)])] } := by kernel_rfl
@[go_sem] theorem an23 : ann 23 = { vs := [2, 3], keep := [(0, [(0, .v), (3, .v)])] } := by kernel_rfl
@[go_sem] theorem an24 : ann 24 = { vs := [2, 3, 4], keep := [(0, [(0, .v), (3, .o 1 true), (4, .v)])] } := by kernel_rfl
@[go_sem] theorem an25 : ann 25 = { vs := [2] } := by kernel_rfl
@[go_sem] theorem an26 : ann 26 = { vs := [2, 3, 4, 5, 6, 7], keep := [(0, [(0, .v), (5, .v), (6, .v), (7, .v)])] } := by kernel_rfl
@[go_sem] theorem an27 : ann 27 = { vs := [4, 5, 7, 8, 10, 12, 39, 40, 41, 63, 64, 65], keep := [(1, [(0, .v), (1, .v), (5, .v), (39, .v), (40, .v), (41, .v)]), (3, [(1, .v), (8, .v), (63, .v), (64, .v), (65, .v)])] } := by kernel_rfl
@[go_sem] theorem an28 : ann 28 = { vs := [2, 3], keep := [(0, [(0, .v), (3, .v)])] } := by kernel_rfl
@[go_sem] theorem an29 : ann 29 = { vs := [2] } := by kernel_rfl
@[go_sem] theorem an30 : ann 30 = { vs := [2] } := by kernel_rfl
@[go_sem] theorem an31 : ann 31 = { vs := [2] } := by kernel_rfl
@[go_sem] theorem an32 : ann 32 = { vs := [2, 3, 4], keep := [(0, [(0, .v), (3, .o 1 true)]), (1000004, [])] } := by kernel_rfl
@[go_sem] theorem an33 : ann 33 = { vs := [2, 3, 4], keep := [(0, [(0, .v), (3, .o 1 true), (4, .v)])] } := by kernel_rfl
@[go_sem] theorem an34 : ann 34 = { vs := [6] } := by kernel_rfl
@[go_sem] theorem an35 : ann 35 = { vs := [2] } := by kernel_rfl
@[go_sem] theorem an36 : ann 36 = { vs := [4, 5, 6], keep := [(0, [(0, .v), (1, .v), (5, .o 1 true), (6, .v)])] } := by kernel_rfl
@[go_sem] theorem an37 : ann 37 = { vs := [6] } := by kernel_rfl
@[go_sem] theorem an39 : ann 39 = { vs := [4, 5] } := by kernel_rfl
@[go_sem] theorem an40 : ann 40 = { vs := [2] } := by kernel_rfl
@[go_sem] theorem an41 : ann 41 = { vs := [4, 5, 6], keep := [(0, [(0, .v), (5, .o 1 true), (6, .v)])] } := by kernel_rfl
@[go_sem] theorem an42 : ann 42 = { vs := [4, 5, 6, 7] } := by kernel_rfl
@[go_sem] theorem an43 : ann 43 = { vs := [4] } := by kernel_rfl
@[go_sem] theorem an44 : ann 44 = { vs := [2] } := by kernel_rfl
@[go_sem] theorem an46 : ann 46 = { vs := [4] } := by kernel_rfl
@[go_sem] theorem an47 : ann 47 = { vs := [2] } := by kernel_rfl
@[go_sem] theorem an48 : ann 48 = { vs := [4, 5, 7, 8], keep := [(0, [(0, .v), (1, .v), (7, .v), (8, .v)])] } := by kernel_rfl
@[go_sem] theorem an0 : ann 0 = {} := by kernel_rfl
@[go_sem] theorem an1 : ann 1 = {} := by kernel_rfl
@[go_sem] theorem an2 : ann 2 = {} := by kernel_rfl
@[go_sem] theorem an38 : ann 38 = {} := by kernel_rfl
@[go_sem] theorem an45 : ann 45 = {} := by kernel_rfl
@[go_sem] theorem an49 : ann 49 = {} := by kernel_rfl
@[go_sem] theorem an50 : ann 50 = {} := by kernel_rfl
@[go_sem] theorem an51 : ann 51 = {} := by kernel_rfl
@[go_sem] theorem an52 : ann 52 = {} := by kernel_rfl
@[go_sem] theorem an53 : ann 53 = {} := by kernel_rfl
@[go_sem] theorem an54 : ann 54 = {} := by kernel_rfl
@[go_sem] theorem an55 : ann 55 = {} := by kernel_rfl
@[go_sem] theorem an56 : ann 56 = {} := by kernel_rfl
@[go_sem] theorem an57 : ann 57 = {} := by kernel_rfl
@[go_sem] theorem an58 : ann 58 = {} := by kernel_rfl
@[go_sem] theorem an59 : ann 59 = {} := by kernel_rfl
@[go_sem] theorem an60 : ann 60 = {} := by kernel_rfl
@[go_sem] theorem an61 : ann 61 = {} := by kernel_rfl
@[go_sem] theorem an62 : ann 62 = {} := by kernel_rfl
@[go_sem] theorem an63 : ann 63 = {} := by kernel_rfl
@[go_sem] theorem an64 : ann 64 = {} := by kernel_rfl
@[go_sem] theorem an65 : ann 65 = {} := by kernel_rfl
@[go_sem] theorem an66 : ann 66 = {} := by kernel_rfl
@[go_sem] theorem an67 : ann 67 = {} := by kernel_rfl
@[go_sem] theorem an68 : ann 68 = {} := by kernel_rfl
@[go_sem] theorem re2 : Go.Proofs.Try.f2.results.toList = [] := rfl
@[go_sem] theorem re3 : Go.Proofs.Try.f3.results.toList = [.tmp 2] := rfl
@[go_sem] theorem re4 : Go.Proofs.Try.f4.results.toList = [.tmp 4] := rfl
@[go_sem] theorem re5 : Go.Proofs.Try.f5.results.toList = [.tmp 4] := rfl
@[go_sem] theorem re6 : Go.Proofs.Try.f6.results.toList = [.tmp 2, .tmp 3] := rfl
@[go_sem] theorem re7 : Go.Proofs.Try.f7.results.toList = [.tmp 2] := rfl
@[go_sem] theorem re8 : Go.Proofs.Try.f8.results.toList = [.tmp 2, .tmp 3] := rfl
@[go_sem] theorem re9 : Go.Proofs.Try.f9.results.toList = [.tmp 4] := rfl
@[go_sem] theorem re10 : Go.Proofs.Try.f10.results.toList = [.tmp 4] := rfl
@[go_sem] theorem re11 : Go.Proofs.Try.f11.results.toList = [.tmp 4] := rfl
@[go_sem] theorem re12 : Go.Proofs.Try.f12.results.toList = [.tmp 4] := rfl
@[go_sem] theorem re13 : Go.Proofs.Try.f13.results.toList = [.tmp 4] := rfl
@[go_sem] theorem re14 : Go.Proofs.Try.f14.results.toList = [.tmp 2] := rfl
@[go_sem] theorem re15 : Go.Proofs.Try.f15.results.toList = [.tmp 2, .tmp 3] := rfl
@[go_sem] theorem re16 : Go.Proofs.Try.f16.results.toList = [.tmp 2, .tmp 3] := rfl
@[go_sem] theorem re17 : Go.Proofs.Try.f17.results.toList = [.tmp 2, .tmp 3] := rfl
@[go_sem] theorem re18 : Go.Proofs.Try.f18.results.toList = [.tmp 4, .tmp 5] := rfl
@[go_sem] theorem re19 : Go.Proofs.Try.f19.results.toList = [.tmp 4, .tmp 5] := rfl
@[go_sem] theorem re20 : Go.Proofs.Try.f20.results.toList = [.tmp 4] := rfl
@[go_sem] theorem re21 : Go.Proofs.Try.f21.results.toList = [.tmp 4] := rfl
@[go_sem] theorem re22 : Go.Proofs.Try.f22.results.toList = [.tmp 4] := rfl
@[go_sem] theorem re23 : Go.Proofs.Try.f23.results.toList = [.tmp 2] := rfl
@[go_sem] theorem re24 : Go.Proofs.Try.f24.results.toList = [.tmp 2] := rfl
@[go_sem] theorem re25 : Go.Proofs.Try.f25.results.toList = [.tmp 2] := rfl
@[go_sem] theorem re26 : Go.Proofs.Try.f26.results.toList = [.tmp 2] := rfl
@[go_sem] theorem re27 : Go.Proofs.Try.f27.results.toList = [.tmp 4] := rfl
@[go_sem] theorem re28 : Go.Proofs.Try.f28.results.toList = [.tmp 2] := rfl
@[go_sem] theorem re29 : Go.Proofs.Try.f29.results.toList = [.tmp 2] := rfl
@[go_sem] theorem re30 : Go.Proofs.Try.f30.results.toList = [.tmp 2] := rfl
@[go_sem] theorem re31 : Go.Proofs.Try.f31.results.toList = [.tmp 2] := rfl
@[go_sem] theorem re32 : Go.Proofs.Try.f32.results.toList = [.tmp 2] := rfl
@[go_sem] theorem re33 : Go.Proofs.Try.f33.results.toList = [.tmp 2] := rfl
@[go_sem] theorem re34 : Go.Proofs.Try.f34.results.toList = [.tmp 6] := rfl
@[go_sem] theorem re35 : Go.Proofs.Try.f35.results.toList = [.tmp 2] := rfl
@[go_sem] theorem re36 : Go.Proofs.Try.f36.results.toList = [.tmp 4] := rfl
@[go_sem] theorem re37 : Go.Proofs.Try.f37.results.toList = [.tmp 6] := rfl
@[go_sem] theorem re38 : Go.Proofs.Try.f38.results.toList = [] := rfl
@[go_sem] theorem re39 : Go.Proofs.Try.f39.results.toList = [.tmp 4, .tmp 5] := rfl
@[go_sem] theorem re40 : Go.Proofs.Try.f40.results.toList = [.tmp 2] := rfl
@[go_sem] theorem re41 : Go.Proofs.Try.f41.results.toList = [.tmp 4] := rfl
@[go_sem] theorem re42 : Go.Proofs.Try.f42.results.toList = [.tmp 4] := rfl
@[go_sem] theorem re43 : Go.Proofs.Try.f43.results.toList = [.tmp 4] := rfl
@[go_sem] theorem re44 : Go.Proofs.Try.f44.results.toList = [.tmp 2] := rfl
@[go_sem] theorem re45 : Go.Proofs.Try.f45.results.toList = [] := rfl
@[go_sem] theorem re46 : Go.Proofs.Try.f46.results.toList = [] := rfl
@[go_sem] theorem re47 : Go.Proofs.Try.f47.results.toList = [.tmp 2] := rfl
@[go_sem] theorem re48 : Go.Proofs.Try.f48.results.toList = [.tmp 4] := rfl
end Go.Proofs.Ytnboldeohbihmaa.Ev
