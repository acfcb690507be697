/- The seat's table of types, and that it says of the loaded program what is so. -/
import Derived.Test.YtonbmmjagdbgaaaDoorSymW
import Derived.Test.YtonbmmjagdbgaaaDoorProg
import Derived.KernelRfl
namespace Go.Sym
open Go.Proofs
set_option linter.unusedVariables false
set_option linter.unusedSimpArgs false
set_option maxRecDepth 100000
def tab : List (TypeId × TI) := [
  (1, ⟨.other, 1, 8, [.nilf]⟩),
  (2, ⟨.int .i64, 1, 8, [.int .i64 0]⟩),
  (3, ⟨.int .i64, 1, 8, [.int .i64 0]⟩),
  (4, ⟨.bool, 1, 1, [.bool false]⟩),
  (5, ⟨.int .u8, 1, 1, [.int .u8 0]⟩),
  (6, ⟨.int .u8, 1, 1, [.int .u8 0]⟩),
  (7, ⟨.strct [⟨0, 1, false⟩, ⟨1, 1, false⟩, ⟨2, 1, false⟩, ⟨3, 1, false⟩], 4, 24, [.int .i64 0, .int .i64 0, .bool false, .int .u8 0]⟩),
  (8, ⟨.strct [⟨0, 1, false⟩, ⟨1, 1, false⟩, ⟨2, 1, false⟩, ⟨3, 1, false⟩], 4, 24, [.int .i64 0, .int .i64 0, .bool false, .int .u8 0]⟩),
  (9, ⟨.str, 1, 16, [.str ⟨#[]⟩]⟩),
  (10, ⟨.str, 1, 16, [.str ⟨#[]⟩]⟩),
  (11, ⟨.str, 1, 16, [.str ⟨#[]⟩]⟩),
  (12, ⟨.int .u64, 1, 8, [.int .u64 0]⟩),
  (13, ⟨.strct [⟨0, 1, false⟩, ⟨1, 1, false⟩], 2, 24, [.str ⟨#[]⟩, .int .u64 0]⟩),
  (14, ⟨.strct [⟨0, 1, false⟩, ⟨1, 1, false⟩], 2, 24, [.str ⟨#[]⟩, .int .u64 0]⟩),
  (18, ⟨.strct [⟨0, 1, false⟩], 1, 8, [.nilp]⟩),
  (19, ⟨.strct [⟨0, 1, false⟩], 1, 8, [.nilp]⟩),
  (20, ⟨.ifc, 1, 16, [.nili]⟩),
  (21, ⟨.int .i32, 1, 4, [.int .i32 0]⟩),
  (22, ⟨.slc 3 (.int .i64), 1, 24, [.zc 3 (.int .i64)]⟩),
  (23, ⟨.strct [⟨0, 1, false⟩, ⟨1, 1, false⟩], 2, 32, [.int .i64 0, .zc 3 (.int .i64)]⟩),
  (24, ⟨.strct [⟨0, 1, false⟩, ⟨1, 1, false⟩], 2, 32, [.int .i64 0, .zc 3 (.int .i64)]⟩),
  (25, ⟨.strct [⟨0, 2, true⟩, ⟨2, 2, true⟩], 4, 64, [.int .i64 0, .zc 3 (.int .i64), .int .i64 0, .zc 3 (.int .i64)]⟩),
  (26, ⟨.strct [⟨0, 2, true⟩, ⟨2, 2, true⟩], 4, 64, [.int .i64 0, .zc 3 (.int .i64), .int .i64 0, .zc 3 (.int .i64)]⟩),
  (27, ⟨.other, 1, 8, [.nilf]⟩),
  (28, ⟨.other, 1, 8, [.nilf]⟩),
  (29, ⟨.other, 1, 8, [.nilf]⟩),
  (30, ⟨.other, 1, 8, [.nilf]⟩),
  (32, ⟨.other, 1, 8, [.nilf]⟩),
  (33, ⟨.other, 1, 8, [.nilf]⟩),
  (34, ⟨.other, 1, 8, [.nilf]⟩),
  (35, ⟨.other, 1, 8, [.nilf]⟩),
  (36, ⟨.other, 1, 8, [.nilf]⟩),
  (37, ⟨.other, 1, 8, [.nilf]⟩),
  (38, ⟨.slc 9 .str, 1, 24, [.zc 9 .str]⟩),
  (39, ⟨.other, 1, 8, [.nilf]⟩),
  (41, ⟨.other, 1, 8, [.nilf]⟩),
  (42, ⟨.other, 1, 8, [.nilf]⟩),
  (44, ⟨.other, 1, 8, [.nilf]⟩),
  (46, ⟨.other, 1, 8, [.nilf]⟩),
  (47, ⟨.other, 1, 8, [.nilf]⟩),
  (48, ⟨.other, 1, 8, [.nilf]⟩),
  (49, ⟨.other, 1, 8, [.nilf]⟩),
  (50, ⟨.other, 1, 8, [.nilf]⟩),
  (51, ⟨.other, 1, 8, [.nilf]⟩),
  (52, ⟨.other, 1, 8, [.nilf]⟩),
  (53, ⟨.int .u64, 1, 8, [.int .u64 0]⟩),
  (54, ⟨.other, 1, 8, [.nilf]⟩),
  (55, ⟨.other, 1, 8, [.nilf]⟩),
  (56, ⟨.other, 1, 8, [.nilf]⟩),
  (57, ⟨.other, 1, 8, [.nilf]⟩),
  (58, ⟨.other, 1, 8, [.nilf]⟩),
  (59, ⟨.other, 1, 8, [.nilf]⟩),
  (60, ⟨.other, 1, 8, [.nilf]⟩),
  (61, ⟨.slc 5 (.int .u8), 1, 24, [.zc 5 (.int .u8)]⟩),
  (62, ⟨.other, 1, 8, [.nilf]⟩),
  (63, ⟨.other, 1, 8, [.nilf]⟩),
  (64, ⟨.other, 1, 8, [.nilf]⟩),
  (65, ⟨.ifc, 1, 16, [.nili]⟩),
  (66, ⟨.ifc, 1, 16, [.nili]⟩),
  (68, ⟨.other, 1, 8, [.nilf]⟩),
  (69, ⟨.other, 1, 8, [.nilf]⟩),
  (70, ⟨.other, 1, 8, [.nilf]⟩),
  (71, ⟨.other, 1, 8, [.nilf]⟩),
  (72, ⟨.other, 1, 8, [.nilf]⟩),
  (73, ⟨.other, 1, 8, [.nilf]⟩),
  (74, ⟨.other, 1, 8, [.nilf]⟩),
  (75, ⟨.int .u32, 1, 4, [.int .u32 0]⟩),
  (77, ⟨.other, 1, 8, [.nilf]⟩),
  (78, ⟨.int .i64, 1, 8, [.int .i64 0]⟩),
  (80, ⟨.other, 1, 8, [.nilf]⟩),
  (82, ⟨.other, 1, 8, [.nilf]⟩),
  (83, ⟨.other, 1, 8, [.nilf]⟩),
  (84, ⟨.other, 1, 8, [.nilf]⟩),
  (86, ⟨.other, 1, 8, [.nilf]⟩),
  (87, ⟨.int .u64, 1, 8, [.int .u64 0]⟩),
  (89, ⟨.other, 1, 8, [.nilf]⟩),
  (90, ⟨.other, 1, 8, [.nilf]⟩),
  (91, ⟨.strct [⟨0, 1, false⟩, ⟨1, 1, false⟩, ⟨2, 1, false⟩], 3, 48, [.str ⟨#[]⟩, .str ⟨#[]⟩, .nili]⟩),
  (92, ⟨.strct [⟨0, 1, false⟩, ⟨1, 1, false⟩, ⟨2, 1, false⟩], 3, 48, [.str ⟨#[]⟩, .str ⟨#[]⟩, .nili]⟩),
  (93, ⟨.other, 1, 8, [.nilf]⟩),
  (94, ⟨.other, 1, 8, [.nilf]⟩),
  (95, ⟨.other, 1, 8, [.nilf]⟩),
  (96, ⟨.other, 1, 8, [.nilf]⟩),
  (99, ⟨.strct [⟨0, 1, false⟩], 1, 16, [.str ⟨#[]⟩]⟩),
  (100, ⟨.strct [⟨0, 1, false⟩], 1, 16, [.str ⟨#[]⟩]⟩),
  (101, ⟨.arr 24 5, 24, 24, [.int .u8 0, .int .u8 0, .int .u8 0, .int .u8 0, .int .u8 0, .int .u8 0, .int .u8 0, .int .u8 0, .int .u8 0, .int .u8 0, .int .u8 0, .int .u8 0, .int .u8 0, .int .u8 0, .int .u8 0, .int .u8 0, .int .u8 0, .int .u8 0, .int .u8 0, .int .u8 0, .int .u8 0, .int .u8 0, .int .u8 0, .int .u8 0]⟩),
  (102, ⟨.other, 1, 8, [.nilf]⟩),
  (103, ⟨.other, 1, 8, [.nilf]⟩),
  (105, ⟨.other, 1, 8, [.nilf]⟩),
  (106, ⟨.arr 256 5, 256, 256, [.int .u8 0, .int .u8 0, .int .u8 0, .int .u8 0, .int .u8 0, .int .u8 0, .int .u8 0, .int .u8 0, .int .u8 0, .int .u8 0, .int .u8 0, .int .u8 0, .int .u8 0, .int .u8 0, .int .u8 0, .int .u8 0, .int .u8 0, .int .u8 0, .int .u8 0, .int .u8 0, .int .u8 0, .int .u8 0, .int .u8 0, .int .u8 0, .int .u8 0, .int .u8 0, .int .u8 0, .int .u8 0, .int .u8 0, .int .u8 0, .int .u8 0, .int .u8 0, .int .u8 0, .int .u8 0, .int .u8 0, .int .u8 0, .int .u8 0, .int .u8 0, .int .u8 0, .int .u8 0, .int .u8 0, .int .u8 0, .int .u8 0, .int .u8 0, .int .u8 0, .int .u8 0, .int .u8 0, .int .u8 0, .int .u8 0, .int .u8 0, .int .u8 0, .int .u8 0, .int .u8 0, .int .u8 0, .int .u8 0, .int .u8 0, .int .u8 0, .int .u8 0, .int .u8 0, .int .u8 0, .int .u8 0, .int .u8 0, .int .u8 0, .int .u8 0, .int .u8 0, .int .u8 0, .int .u8 0, .int .u8 0, .int .u8 0, .int .u8 0, .int .u8 0, .int .u8 0, .int .u8 0, .int .u8 0, .int .u8 0, .int .u8 0, .int .u8 0, .int .u8 0, .int .u8 0, .int .u8 0, .int .u8 0, .int .u8 0, .int .u8 0, .int .u8 0, .int .u8 0, .int .u8 0, .int .u8 0, .int .u8 0, .int .u8 0, .int .u8 0, .int .u8 0, .int .u8 0, .int .u8 0, .int .u8 0, .int .u8 0, .int .u8 0, .int .u8 0, .int .u8 0, .int .u8 0, .int .u8 0, .int .u8 0, .int .u8 0, .int .u8 0, .int .u8 0, .int .u8 0, .int .u8 0, .int .u8 0, .int .u8 0, .int .u8 0, .int .u8 0, .int .u8 0, .int .u8 0, .int .u8 0, .int .u8 0, .int .u8 0, .int .u8 0, .int .u8 0, .int .u8 0, .int .u8 0, .int .u8 0, .int .u8 0, .int .u8 0, .int .u8 0, .int .u8 0, .int .u8 0, .int .u8 0, .int .u8 0, .int .u8 0, .int .u8 0, .int .u8 0, .int .u8 0, .int .u8 0, .int .u8 0, .int .u8 0, .int .u8 0, .int .u8 0, .int .u8 0, .int .u8 0, .int .u8 0, .int .u8 0, .int .u8 0, .int .u8 0, .int .u8 0, .int .u8 0, .int .u8 0, .int .u8 0, .int .u8 0, .int .u8 0, .int .u8 0, .int .u8 0, .int .u8 0, .int .u8 0, .int .u8 0, .int .u8 0, .int .u8 0, .int .u8 0, .int .u8 0, .int .u8 0, .int .u8 0, .int .u8 0, .int .u8 0, .int .u8 0, .int .u8 0, .int .u8 0, .int .u8 0, .int .u8 0, .int .u8 0, .int .u8 0, .int .u8 0, .int .u8 0, .int .u8 0, .int .u8 0, .int .u8 0, .int .u8 0, .int .u8 0, .int .u8 0, .int .u8 0, .int .u8 0, .int .u8 0, .int .u8 0, .int .u8 0, .int .u8 0, .int .u8 0, .int .u8 0, .int .u8 0, .int .u8 0, .int .u8 0, .int .u8 0, .int .u8 0, .int .u8 0, .int .u8 0, .int .u8 0, .int .u8 0, .int .u8 0, .int .u8 0, .int .u8 0, .int .u8 0, .int .u8 0, .int .u8 0, .int .u8 0, .int .u8 0, .int .u8 0, .int .u8 0, .int .u8 0, .int .u8 0, .int .u8 0, .int .u8 0, .int .u8 0, .int .u8 0, .int .u8 0, .int .u8 0, .int .u8 0, .int .u8 0, .int .u8 0, .int .u8 0, .int .u8 0, .int .u8 0, .int .u8 0, .int .u8 0, .int .u8 0, .int .u8 0, .int .u8 0, .int .u8 0, .int .u8 0, .int .u8 0, .int .u8 0, .int .u8 0, .int .u8 0, .int .u8 0, .int .u8 0, .int .u8 0, .int .u8 0, .int .u8 0, .int .u8 0, .int .u8 0, .int .u8 0, .int .u8 0, .int .u8 0, .int .u8 0, .int .u8 0, .int .u8 0, .int .u8 0, .int .u8 0, .int .u8 0, .int .u8 0, .int .u8 0, .int .u8 0, .int .u8 0, .int .u8 0, .int .u8 0, .int .u8 0, .int .u8 0, .int .u8 0, .int .u8 0, .int .u8 0, .int .u8 0]⟩),
  (107, ⟨.strct [⟨0, 1, false⟩, ⟨1, 1, false⟩], 2, 2, [.int .u8 0, .int .u8 0]⟩),
  (108, ⟨.strct [⟨0, 1, false⟩, ⟨1, 1, false⟩], 2, 2, [.int .u8 0, .int .u8 0]⟩),
  (110, ⟨.other, 1, 8, [.nilf]⟩),
  (111, ⟨.arr 20 87, 20, 160, [.int .u64 0, .int .u64 0, .int .u64 0, .int .u64 0, .int .u64 0, .int .u64 0, .int .u64 0, .int .u64 0, .int .u64 0, .int .u64 0, .int .u64 0, .int .u64 0, .int .u64 0, .int .u64 0, .int .u64 0, .int .u64 0, .int .u64 0, .int .u64 0, .int .u64 0, .int .u64 0]⟩),
  (112, ⟨.arr 65 5, 65, 65, [.int .u8 0, .int .u8 0, .int .u8 0, .int .u8 0, .int .u8 0, .int .u8 0, .int .u8 0, .int .u8 0, .int .u8 0, .int .u8 0, .int .u8 0, .int .u8 0, .int .u8 0, .int .u8 0, .int .u8 0, .int .u8 0, .int .u8 0, .int .u8 0, .int .u8 0, .int .u8 0, .int .u8 0, .int .u8 0, .int .u8 0, .int .u8 0, .int .u8 0, .int .u8 0, .int .u8 0, .int .u8 0, .int .u8 0, .int .u8 0, .int .u8 0, .int .u8 0, .int .u8 0, .int .u8 0, .int .u8 0, .int .u8 0, .int .u8 0, .int .u8 0, .int .u8 0, .int .u8 0, .int .u8 0, .int .u8 0, .int .u8 0, .int .u8 0, .int .u8 0, .int .u8 0, .int .u8 0, .int .u8 0, .int .u8 0, .int .u8 0, .int .u8 0, .int .u8 0, .int .u8 0, .int .u8 0, .int .u8 0, .int .u8 0, .int .u8 0, .int .u8 0, .int .u8 0, .int .u8 0, .int .u8 0, .int .u8 0, .int .u8 0, .int .u8 0, .int .u8 0]⟩),
  (113, ⟨.other, 1, 8, [.nilf]⟩),
  (114, ⟨.other, 1, 8, [.nilf]⟩),
  (115, ⟨.arr 32 5, 32, 32, [.int .u8 0, .int .u8 0, .int .u8 0, .int .u8 0, .int .u8 0, .int .u8 0, .int .u8 0, .int .u8 0, .int .u8 0, .int .u8 0, .int .u8 0, .int .u8 0, .int .u8 0, .int .u8 0, .int .u8 0, .int .u8 0, .int .u8 0, .int .u8 0, .int .u8 0, .int .u8 0, .int .u8 0, .int .u8 0, .int .u8 0, .int .u8 0, .int .u8 0, .int .u8 0, .int .u8 0, .int .u8 0, .int .u8 0, .int .u8 0, .int .u8 0, .int .u8 0]⟩),
  (116, ⟨.arr 64 5, 64, 64, [.int .u8 0, .int .u8 0, .int .u8 0, .int .u8 0, .int .u8 0, .int .u8 0, .int .u8 0, .int .u8 0, .int .u8 0, .int .u8 0, .int .u8 0, .int .u8 0, .int .u8 0, .int .u8 0, .int .u8 0, .int .u8 0, .int .u8 0, .int .u8 0, .int .u8 0, .int .u8 0, .int .u8 0, .int .u8 0, .int .u8 0, .int .u8 0, .int .u8 0, .int .u8 0, .int .u8 0, .int .u8 0, .int .u8 0, .int .u8 0, .int .u8 0, .int .u8 0, .int .u8 0, .int .u8 0, .int .u8 0, .int .u8 0, .int .u8 0, .int .u8 0, .int .u8 0, .int .u8 0, .int .u8 0, .int .u8 0, .int .u8 0, .int .u8 0, .int .u8 0, .int .u8 0, .int .u8 0, .int .u8 0, .int .u8 0, .int .u8 0, .int .u8 0, .int .u8 0, .int .u8 0, .int .u8 0, .int .u8 0, .int .u8 0, .int .u8 0, .int .u8 0, .int .u8 0, .int .u8 0, .int .u8 0, .int .u8 0, .int .u8 0, .int .u8 0]⟩),
  (117, ⟨.other, 1, 8, [.nilf]⟩),
  (118, ⟨.strct [⟨0, 1, false⟩, ⟨1, 1, false⟩, ⟨2, 1, false⟩, ⟨3, 1, false⟩], 4, 40, [.nilp, .nilp, .nilp, .str ⟨#[]⟩]⟩),
  (119, ⟨.strct [⟨0, 1, false⟩, ⟨1, 1, false⟩, ⟨2, 1, false⟩, ⟨3, 1, false⟩], 4, 40, [.nilp, .nilp, .nilp, .str ⟨#[]⟩]⟩),
  (123, ⟨.other, 1, 8, [.nilf]⟩),
  (124, ⟨.int .u8, 1, 1, [.int .u8 0]⟩),
  (125, ⟨.int .u8, 1, 1, [.int .u8 0]⟩),
  (126, ⟨.other, 1, 8, [.nilf]⟩),
  (127, ⟨.int .i32, 1, 4, [.int .i32 0]⟩),
  (128, ⟨.int .i32, 1, 4, [.int .i32 0]⟩),
  (129, ⟨.strct [⟨0, 1, false⟩, ⟨1, 1, false⟩, ⟨2, 1, false⟩, ⟨3, 1, false⟩, ⟨4, 1, false⟩, ⟨5, 1, false⟩, ⟨6, 1, false⟩, ⟨7, 1, false⟩, ⟨8, 1, false⟩, ⟨9, 1, false⟩, ⟨10, 1, false⟩], 11, 48, [.int .u64 0, .int .u64 0, .int .u32 0, .int .u8 0, .int .u8 0, .int .u8 0, .int .u8 0, .nilf, .nilp, .int .i32 0, .int .i32 0]⟩),
  (130, ⟨.strct [⟨0, 1, false⟩, ⟨1, 1, false⟩, ⟨2, 1, false⟩, ⟨3, 1, false⟩, ⟨4, 1, false⟩, ⟨5, 1, false⟩, ⟨6, 1, false⟩, ⟨7, 1, false⟩, ⟨8, 1, false⟩, ⟨9, 1, false⟩, ⟨10, 1, false⟩], 11, 48, [.int .u64 0, .int .u64 0, .int .u32 0, .int .u8 0, .int .u8 0, .int .u8 0, .int .u8 0, .nilf, .nilp, .int .i32 0, .int .i32 0]⟩)]
theorem tyOk {E : Env} (h : E.tab = tab) : TyOk Tryd.prog E := by
  unfold TyOk
  rw [h]
  refine ?_
  unfold tab
  refine List.forall_mem_cons.2 ⟨⟨by kernel_rfl, by kernel_rfl, by kernel_rfl, by decide, by decide, by kernel_rfl⟩, ?_⟩
  refine List.forall_mem_cons.2 ⟨⟨by kernel_rfl, by kernel_rfl, by kernel_rfl, by decide, by decide, by kernel_rfl⟩, ?_⟩
  refine List.forall_mem_cons.2 ⟨⟨by kernel_rfl, by kernel_rfl, by kernel_rfl, by decide, by decide, by kernel_rfl⟩, ?_⟩
  refine List.forall_mem_cons.2 ⟨⟨by kernel_rfl, by kernel_rfl, by kernel_rfl, by decide, by decide, by kernel_rfl⟩, ?_⟩
  refine List.forall_mem_cons.2 ⟨⟨by kernel_rfl, by kernel_rfl, by kernel_rfl, by decide, by decide, by kernel_rfl⟩, ?_⟩
  refine List.forall_mem_cons.2 ⟨⟨by kernel_rfl, by kernel_rfl, by kernel_rfl, by decide, by decide, by kernel_rfl⟩, ?_⟩
  refine List.forall_mem_cons.2 ⟨⟨by kernel_rfl, by kernel_rfl, by kernel_rfl, by decide, by decide, by kernel_rfl⟩, ?_⟩
  refine List.forall_mem_cons.2 ⟨⟨by kernel_rfl, by kernel_rfl, by kernel_rfl, by decide, by decide, by kernel_rfl⟩, ?_⟩
  refine List.forall_mem_cons.2 ⟨⟨by kernel_rfl, by kernel_rfl, by kernel_rfl, by decide, by decide, by kernel_rfl⟩, ?_⟩
  refine List.forall_mem_cons.2 ⟨⟨by kernel_rfl, by kernel_rfl, by kernel_rfl, by decide, by decide, by kernel_rfl⟩, ?_⟩
  refine List.forall_mem_cons.2 ⟨⟨by kernel_rfl, by kernel_rfl, by kernel_rfl, by decide, by decide, by kernel_rfl⟩, ?_⟩
  refine List.forall_mem_cons.2 ⟨⟨by kernel_rfl, by kernel_rfl, by kernel_rfl, by decide, by decide, by kernel_rfl⟩, ?_⟩
  refine List.forall_mem_cons.2 ⟨⟨by kernel_rfl, by kernel_rfl, by kernel_rfl, by decide, by decide, by kernel_rfl⟩, ?_⟩
  refine List.forall_mem_cons.2 ⟨⟨by kernel_rfl, by kernel_rfl, by kernel_rfl, by decide, by decide, by kernel_rfl⟩, ?_⟩
  refine List.forall_mem_cons.2 ⟨⟨by kernel_rfl, by kernel_rfl, by kernel_rfl, by decide, by decide, by kernel_rfl⟩, ?_⟩
  refine List.forall_mem_cons.2 ⟨⟨by kernel_rfl, by kernel_rfl, by kernel_rfl, by decide, by decide, by kernel_rfl⟩, ?_⟩
  refine List.forall_mem_cons.2 ⟨⟨by kernel_rfl, by kernel_rfl, by kernel_rfl, by decide, by decide, by kernel_rfl⟩, ?_⟩
  refine List.forall_mem_cons.2 ⟨⟨by kernel_rfl, by kernel_rfl, by kernel_rfl, by decide, by decide, by kernel_rfl⟩, ?_⟩
  refine List.forall_mem_cons.2 ⟨⟨by kernel_rfl, by kernel_rfl, by kernel_rfl, by decide, by decide, by kernel_rfl⟩, ?_⟩
  refine List.forall_mem_cons.2 ⟨⟨by kernel_rfl, by kernel_rfl, by kernel_rfl, by decide, by decide, by kernel_rfl⟩, ?_⟩
  refine List.forall_mem_cons.2 ⟨⟨by kernel_rfl, by kernel_rfl, by kernel_rfl, by decide, by decide, by kernel_rfl⟩, ?_⟩
  refine List.forall_mem_cons.2 ⟨⟨by kernel_rfl, by kernel_rfl, by kernel_rfl, by decide, by decide, by kernel_rfl⟩, ?_⟩
  refine List.forall_mem_cons.2 ⟨⟨by kernel_rfl, by kernel_rfl, by kernel_rfl, by decide, by decide, by kernel_rfl⟩, ?_⟩
  refine List.forall_mem_cons.2 ⟨⟨by kernel_rfl, by kernel_rfl, by kernel_rfl, by decide, by decide, by kernel_rfl⟩, ?_⟩
  refine List.forall_mem_cons.2 ⟨⟨by kernel_rfl, by kernel_rfl, by kernel_rfl, by decide, by decide, by kernel_rfl⟩, ?_⟩
  refine List.forall_mem_cons.2 ⟨⟨by kernel_rfl, by kernel_rfl, by kernel_rfl, by decide, by decide, by kernel_rfl⟩, ?_⟩
  refine List.forall_mem_cons.2 ⟨⟨by kernel_rfl, by kernel_rfl, by kernel_rfl, by decide, by decide, by kernel_rfl⟩, ?_⟩
  refine List.forall_mem_cons.2 ⟨⟨by kernel_rfl, by kernel_rfl, by kernel_rfl, by decide, by decide, by kernel_rfl⟩, ?_⟩
  refine List.forall_mem_cons.2 ⟨⟨by kernel_rfl, by kernel_rfl, by kernel_rfl, by decide, by decide, by kernel_rfl⟩, ?_⟩
  refine List.forall_mem_cons.2 ⟨⟨by kernel_rfl, by kernel_rfl, by kernel_rfl, by decide, by decide, by kernel_rfl⟩, ?_⟩
  refine List.forall_mem_cons.2 ⟨⟨by kernel_rfl, by kernel_rfl, by kernel_rfl, by decide, by decide, by kernel_rfl⟩, ?_⟩
  refine List.forall_mem_cons.2 ⟨⟨by kernel_rfl, by kernel_rfl, by kernel_rfl, by decide, by decide, by kernel_rfl⟩, ?_⟩
  refine List.forall_mem_cons.2 ⟨⟨by kernel_rfl, by kernel_rfl, by kernel_rfl, by decide, by decide, by kernel_rfl⟩, ?_⟩
  refine List.forall_mem_cons.2 ⟨⟨by kernel_rfl, by kernel_rfl, by kernel_rfl, by decide, by decide, by kernel_rfl⟩, ?_⟩
  refine List.forall_mem_cons.2 ⟨⟨by kernel_rfl, by kernel_rfl, by kernel_rfl, by decide, by decide, by kernel_rfl⟩, ?_⟩
  refine List.forall_mem_cons.2 ⟨⟨by kernel_rfl, by kernel_rfl, by kernel_rfl, by decide, by decide, by kernel_rfl⟩, ?_⟩
  refine List.forall_mem_cons.2 ⟨⟨by kernel_rfl, by kernel_rfl, by kernel_rfl, by decide, by decide, by kernel_rfl⟩, ?_⟩
  refine List.forall_mem_cons.2 ⟨⟨by kernel_rfl, by kernel_rfl, by kernel_rfl, by decide, by decide, by kernel_rfl⟩, ?_⟩
  refine List.forall_mem_cons.2 ⟨⟨by kernel_rfl, by kernel_rfl, by kernel_rfl, by decide, by decide, by kernel_rfl⟩, ?_⟩
  refine List.forall_mem_cons.2 ⟨⟨by kernel_rfl, by kernel_rfl, by kernel_rfl, by decide, by decide, by kernel_rfl⟩, ?_⟩
  refine List.forall_mem_cons.2 ⟨⟨by kernel_rfl, by kernel_rfl, by kernel_rfl, by decide, by decide, by kernel_rfl⟩, ?_⟩
  refine List.forall_mem_cons.2 ⟨⟨by kernel_rfl, by kernel_rfl, by kernel_rfl, by decide, by decide, by kernel_rfl⟩, ?_⟩
  refine List.forall_mem_cons.2 ⟨⟨by kernel_rfl, by kernel_rfl, by kernel_rfl, by decide, by decide, by kernel_rfl⟩, ?_⟩
  refine List.forall_mem_cons.2 ⟨⟨by kernel_rfl, by kernel_rfl, by kernel_rfl, by decide, by decide, by kernel_rfl⟩, ?_⟩
  refine List.forall_mem_cons.2 ⟨⟨by kernel_rfl, by kernel_rfl, by kernel_rfl, by decide, by decide, by kernel_rfl⟩, ?_⟩
  refine List.forall_mem_cons.2 ⟨⟨by kernel_rfl, by kernel_rfl, by kernel_rfl, by decide, by decide, by kernel_rfl⟩, ?_⟩
  refine List.forall_mem_cons.2 ⟨⟨by kernel_rfl, by kernel_rfl, by kernel_rfl, by decide, by decide, by kernel_rfl⟩, ?_⟩
  refine List.forall_mem_cons.2 ⟨⟨by kernel_rfl, by kernel_rfl, by kernel_rfl, by decide, by decide, by kernel_rfl⟩, ?_⟩
  refine List.forall_mem_cons.2 ⟨⟨by kernel_rfl, by kernel_rfl, by kernel_rfl, by decide, by decide, by kernel_rfl⟩, ?_⟩
  refine List.forall_mem_cons.2 ⟨⟨by kernel_rfl, by kernel_rfl, by kernel_rfl, by decide, by decide, by kernel_rfl⟩, ?_⟩
  refine List.forall_mem_cons.2 ⟨⟨by kernel_rfl, by kernel_rfl, by kernel_rfl, by decide, by decide, by kernel_rfl⟩, ?_⟩
  refine List.forall_mem_cons.2 ⟨⟨by kernel_rfl, by kernel_rfl, by kernel_rfl, by decide, by decide, by kernel_rfl⟩, ?_⟩
  refine List.forall_mem_cons.2 ⟨⟨by kernel_rfl, by kernel_rfl, by kernel_rfl, by decide, by decide, by kernel_rfl⟩, ?_⟩
  refine List.forall_mem_cons.2 ⟨⟨by kernel_rfl, by kernel_rfl, by kernel_rfl, by decide, by decide, by kernel_rfl⟩, ?_⟩
  refine List.forall_mem_cons.2 ⟨⟨by kernel_rfl, by kernel_rfl, by kernel_rfl, by decide, by decide, by kernel_rfl⟩, ?_⟩
  refine List.forall_mem_cons.2 ⟨⟨by kernel_rfl, by kernel_rfl, by kernel_rfl, by decide, by decide, by kernel_rfl⟩, ?_⟩
  refine List.forall_mem_cons.2 ⟨⟨by kernel_rfl, by kernel_rfl, by kernel_rfl, by decide, by decide, by kernel_rfl⟩, ?_⟩
  refine List.forall_mem_cons.2 ⟨⟨by kernel_rfl, by kernel_rfl, by kernel_rfl, by decide, by decide, by kernel_rfl⟩, ?_⟩
  refine List.forall_mem_cons.2 ⟨⟨by kernel_rfl, by kernel_rfl, by kernel_rfl, by decide, by decide, by kernel_rfl⟩, ?_⟩
  refine List.forall_mem_cons.2 ⟨⟨by kernel_rfl, by kernel_rfl, by kernel_rfl, by decide, by decide, by kernel_rfl⟩, ?_⟩
  refine List.forall_mem_cons.2 ⟨⟨by kernel_rfl, by kernel_rfl, by kernel_rfl, by decide, by decide, by kernel_rfl⟩, ?_⟩
  refine List.forall_mem_cons.2 ⟨⟨by kernel_rfl, by kernel_rfl, by kernel_rfl, by decide, by decide, by kernel_rfl⟩, ?_⟩
  refine List.forall_mem_cons.2 ⟨⟨by kernel_rfl, by kernel_rfl, by kernel_rfl, by decide, by decide, by kernel_rfl⟩, ?_⟩
  refine List.forall_mem_cons.2 ⟨⟨by kernel_rfl, by kernel_rfl, by kernel_rfl, by decide, by decide, by kernel_rfl⟩, ?_⟩
  refine List.forall_mem_cons.2 ⟨⟨by kernel_rfl, by kernel_rfl, by kernel_rfl, by decide, by decide, by kernel_rfl⟩, ?_⟩
  refine List.forall_mem_cons.2 ⟨⟨by kernel_rfl, by kernel_rfl, by kernel_rfl, by decide, by decide, by kernel_rfl⟩, ?_⟩
  refine List.forall_mem_cons.2 ⟨⟨by kernel_rfl, by kernel_rfl, by kernel_rfl, by decide, by decide, by kernel_rfl⟩, ?_⟩
  refine List.forall_mem_cons.2 ⟨⟨by kernel_rfl, by kernel_rfl, by kernel_rfl, by decide, by decide, by kernel_rfl⟩, ?_⟩
  refine List.forall_mem_cons.2 ⟨⟨by kernel_rfl, by kernel_rfl, by kernel_rfl, by decide, by decide, by kernel_rfl⟩, ?_⟩
  refine List.forall_mem_cons.2 ⟨⟨by kernel_rfl, by kernel_rfl, by kernel_rfl, by decide, by decide, by kernel_rfl⟩, ?_⟩
  refine List.forall_mem_cons.2 ⟨⟨by kernel_rfl, by kernel_rfl, by kernel_rfl, by decide, by decide, by kernel_rfl⟩, ?_⟩
  refine List.forall_mem_cons.2 ⟨⟨by kernel_rfl, by kernel_rfl, by kernel_rfl, by decide, by decide, by kernel_rfl⟩, ?_⟩
  refine List.forall_mem_cons.2 ⟨⟨by kernel_rfl, by kernel_rfl, by kernel_rfl, by decide, by decide, by kernel_rfl⟩, ?_⟩
  refine List.forall_mem_cons.2 ⟨⟨by kernel_rfl, by kernel_rfl, by kernel_rfl, by decide, by decide, by kernel_rfl⟩, ?_⟩
  refine List.forall_mem_cons.2 ⟨⟨by kernel_rfl, by kernel_rfl, by kernel_rfl, by decide, by decide, by kernel_rfl⟩, ?_⟩
  refine List.forall_mem_cons.2 ⟨⟨by kernel_rfl, by kernel_rfl, by kernel_rfl, by decide, by decide, by kernel_rfl⟩, ?_⟩
  refine List.forall_mem_cons.2 ⟨⟨by kernel_rfl, by kernel_rfl, by kernel_rfl, by decide, by decide, by kernel_rfl⟩, ?_⟩
  refine List.forall_mem_cons.2 ⟨⟨by kernel_rfl, by kernel_rfl, by kernel_rfl, by decide, by decide, by kernel_rfl⟩, ?_⟩
  refine List.forall_mem_cons.2 ⟨⟨by kernel_rfl, by kernel_rfl, by kernel_rfl, by decide, by decide, by kernel_rfl⟩, ?_⟩
  refine List.forall_mem_cons.2 ⟨⟨by kernel_rfl, by kernel_rfl, by kernel_rfl, by decide, by decide, by kernel_rfl⟩, ?_⟩
  refine List.forall_mem_cons.2 ⟨⟨by kernel_rfl, by kernel_rfl, by kernel_rfl, by decide, by decide, by kernel_rfl⟩, ?_⟩
  refine List.forall_mem_cons.2 ⟨⟨by kernel_rfl, by kernel_rfl, by kernel_rfl, by decide, by decide, by kernel_rfl⟩, ?_⟩
  refine List.forall_mem_cons.2 ⟨⟨by kernel_rfl, by kernel_rfl, by kernel_rfl, by decide, by decide, by kernel_rfl⟩, ?_⟩
  refine List.forall_mem_cons.2 ⟨⟨by kernel_rfl, by kernel_rfl, by kernel_rfl, by decide, by decide, by kernel_rfl⟩, ?_⟩
  refine List.forall_mem_cons.2 ⟨⟨by kernel_rfl, by kernel_rfl, by kernel_rfl, by decide, by decide, by kernel_rfl⟩, ?_⟩
  refine List.forall_mem_cons.2 ⟨⟨by kernel_rfl, by kernel_rfl, by kernel_rfl, by decide, by decide, by kernel_rfl⟩, ?_⟩
  refine List.forall_mem_cons.2 ⟨⟨by kernel_rfl, by kernel_rfl, by kernel_rfl, by decide, by decide, by kernel_rfl⟩, ?_⟩
  refine List.forall_mem_cons.2 ⟨⟨by kernel_rfl, by kernel_rfl, by kernel_rfl, by decide, by decide, by kernel_rfl⟩, ?_⟩
  refine List.forall_mem_cons.2 ⟨⟨by kernel_rfl, by kernel_rfl, by kernel_rfl, by decide, by decide, by kernel_rfl⟩, ?_⟩
  refine List.forall_mem_cons.2 ⟨⟨by kernel_rfl, by kernel_rfl, by kernel_rfl, by decide, by decide, by kernel_rfl⟩, ?_⟩
  refine List.forall_mem_cons.2 ⟨⟨by kernel_rfl, by kernel_rfl, by kernel_rfl, by decide, by decide, by kernel_rfl⟩, ?_⟩
  refine List.forall_mem_cons.2 ⟨⟨by kernel_rfl, by kernel_rfl, by kernel_rfl, by decide, by decide, by kernel_rfl⟩, ?_⟩
  refine List.forall_mem_cons.2 ⟨⟨by kernel_rfl, by kernel_rfl, by kernel_rfl, by decide, by decide, by kernel_rfl⟩, ?_⟩
  refine List.forall_mem_cons.2 ⟨⟨by kernel_rfl, by kernel_rfl, by kernel_rfl, by decide, by decide, by kernel_rfl⟩, ?_⟩
  refine List.forall_mem_cons.2 ⟨⟨by kernel_rfl, by kernel_rfl, by kernel_rfl, by decide, by decide, by kernel_rfl⟩, ?_⟩
  refine List.forall_mem_cons.2 ⟨⟨by kernel_rfl, by kernel_rfl, by kernel_rfl, by decide, by decide, by kernel_rfl⟩, ?_⟩
  refine List.forall_mem_cons.2 ⟨⟨by kernel_rfl, by kernel_rfl, by kernel_rfl, by decide, by decide, by kernel_rfl⟩, ?_⟩
  refine List.forall_mem_cons.2 ⟨⟨by kernel_rfl, by kernel_rfl, by kernel_rfl, by decide, by decide, by kernel_rfl⟩, ?_⟩
  refine List.forall_mem_cons.2 ⟨⟨by kernel_rfl, by kernel_rfl, by kernel_rfl, by decide, by decide, by kernel_rfl⟩, ?_⟩
  refine List.forall_mem_cons.2 ⟨⟨by kernel_rfl, by kernel_rfl, by kernel_rfl, by decide, by decide, by kernel_rfl⟩, ?_⟩
  refine List.forall_mem_cons.2 ⟨⟨by kernel_rfl, by kernel_rfl, by kernel_rfl, by decide, by decide, by kernel_rfl⟩, ?_⟩
  refine List.forall_mem_cons.2 ⟨⟨by kernel_rfl, by kernel_rfl, by kernel_rfl, by decide, by decide, by kernel_rfl⟩, ?_⟩
  refine List.forall_mem_cons.2 ⟨⟨by kernel_rfl, by kernel_rfl, by kernel_rfl, by decide, by decide, by kernel_rfl⟩, ?_⟩
  refine List.forall_mem_cons.2 ⟨⟨by kernel_rfl, by kernel_rfl, by kernel_rfl, by decide, by decide, by kernel_rfl⟩, ?_⟩
  refine List.forall_mem_cons.2 ⟨⟨by kernel_rfl, by kernel_rfl, by kernel_rfl, by decide, by decide, by kernel_rfl⟩, ?_⟩
  refine List.forall_mem_cons.2 ⟨⟨by kernel_rfl, by kernel_rfl, by kernel_rfl, by decide, by decide, by kernel_rfl⟩, ?_⟩
  refine List.forall_mem_cons.2 ⟨⟨by kernel_rfl, by kernel_rfl, by kernel_rfl, by decide, by decide, by kernel_rfl⟩, ?_⟩
  refine List.forall_mem_cons.2 ⟨⟨by kernel_rfl, by kernel_rfl, by kernel_rfl, by decide, by decide, by kernel_rfl⟩, ?_⟩
  refine List.forall_mem_cons.2 ⟨⟨by kernel_rfl, by kernel_rfl, by kernel_rfl, by decide, by decide, by kernel_rfl⟩, ?_⟩
  refine List.forall_mem_cons.2 ⟨⟨by kernel_rfl, by kernel_rfl, by kernel_rfl, by decide, by decide, by kernel_rfl⟩, ?_⟩
  exact fun p hp => absurd hp (by simp)
theorem mixed : Tryd.prog.follows .mixedOrders = true := by kernel_rfl
instance : Globs := { tab := [(7, .u8, [0, 1, 56, 2, 57, 49, 28, 3, 61, 58, 42, 50, 38, 29, 17, 4, 62, 47, 59, 36, 45, 43, 51, 22, 53, 39, 33, 30, 24, 18, 12, 5, 63, 55, 48, 27, 60, 41, 37, 16, 46, 35, 44, 21, 52, 32, 23, 11, 54, 26, 40, 15, 34, 20, 31, 10, 25, 14, 19, 9, 13, 8, 7, 6]), (5, .u64, [1, 10, 100, 1000, 10000, 100000, 1000000, 10000000, 100000000, 1000000000, 10000000000, 100000000000, 1000000000000, 10000000000000, 100000000000000, 1000000000000000, 10000000000000000, 100000000000000000, 1000000000000000000, 10000000000000000000])], nst := [], nsr := [], held := [(0, isI), (1, isE)] }
instance : Dm := ⟨True⟩
theorem laid : laidOutB Tryd.prog = true := by kernel_rfl
end Go.Sym
