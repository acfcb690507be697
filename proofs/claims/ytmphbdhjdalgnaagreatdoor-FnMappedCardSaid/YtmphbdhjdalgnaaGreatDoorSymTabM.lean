/- The seat's table of types, and that it says of the loaded program what is so. -/
import Derived.Test.YtmphbdhjdalgnaaGreatDoorSymW
import Derived.Test.YtmphbdhjdalgnaaGreatDoorProg
import Derived.KernelRfl
namespace Go.Sym
open Go.Proofs
set_option linter.unusedVariables false
set_option linter.unusedSimpArgs false
set_option maxRecDepth 100000
def tab : List (TypeId × TI) := [
  (1, ⟨.other, 1, 8, [.nilf]⟩),
  (2, ⟨.int .i64, 1, 8, [.int .i64 0]⟩),
  (3, ⟨.int .i64, 1, 8, [.int .i64 0]⟩),
  (4, ⟨.bool, 1, 1, [.bool false]⟩),
  (5, ⟨.int .u8, 1, 1, [.int .u8 0]⟩),
  (6, ⟨.int .u8, 1, 1, [.int .u8 0]⟩),
  (7, ⟨.strct [⟨0, 1, false⟩, ⟨1, 1, false⟩, ⟨2, 1, false⟩, ⟨3, 1, false⟩], 4, 24, [.int .i64 0, .int .i64 0, .bool false, .int .u8 0]⟩),
  (8, ⟨.strct [⟨0, 1, false⟩, ⟨1, 1, false⟩, ⟨2, 1, false⟩, ⟨3, 1, false⟩], 4, 24, [.int .i64 0, .int .i64 0, .bool false, .int .u8 0]⟩),
  (9, ⟨.str, 1, 16, [.str ⟨#[]⟩]⟩),
  (10, ⟨.str, 1, 16, [.str ⟨#[]⟩]⟩),
  (11, ⟨.str, 1, 16, [.str ⟨#[]⟩]⟩),
  (12, ⟨.int .u64, 1, 8, [.int .u64 0]⟩),
  (13, ⟨.strct [⟨0, 1, false⟩, ⟨1, 1, false⟩], 2, 24, [.str ⟨#[]⟩, .int .u64 0]⟩),
  (14, ⟨.strct [⟨0, 1, false⟩, ⟨1, 1, false⟩], 2, 24, [.str ⟨#[]⟩, .int .u64 0]⟩),
  (18, ⟨.strct [⟨0, 1, false⟩], 1, 8, [.nilp]⟩),
  (19, ⟨.strct [⟨0, 1, false⟩], 1, 8, [.nilp]⟩),
  (20, ⟨.ifc, 1, 16, [.nili]⟩),
  (21, ⟨.int .i32, 1, 4, [.int .i32 0]⟩),
  (22, ⟨.slc 5 (.int .u8), 1, 24, [.zc 5 (.int .u8)]⟩),
  (23, ⟨.other, 1, 8, [.nilf]⟩),
  (24, ⟨.slc 3 (.int .i64), 1, 24, [.zc 3 (.int .i64)]⟩),
  (25, ⟨.strct [⟨0, 1, false⟩, ⟨1, 1, false⟩], 2, 32, [.int .i64 0, .zc 3 (.int .i64)]⟩),
  (26, ⟨.strct [⟨0, 1, false⟩, ⟨1, 1, false⟩], 2, 32, [.int .i64 0, .zc 3 (.int .i64)]⟩),
  (28, ⟨.other, 1, 8, [.nilf]⟩),
  (30, ⟨.other, 1, 8, [.nilf]⟩),
  (31, ⟨.other, 1, 8, [.nilf]⟩),
  (32, ⟨.other, 1, 8, [.nilf]⟩),
  (33, ⟨.other, 1, 8, [.nilf]⟩),
  (34, ⟨.other, 1, 8, [.nilf]⟩),
  (35, ⟨.other, 1, 8, [.nilf]⟩),
  (37, ⟨.other, 1, 8, [.nilf]⟩),
  (38, ⟨.other, 1, 8, [.nilf]⟩),
  (39, ⟨.slc 56 (.pair (.int .i64) (.int .i64)), 1, 24, [.zc 56 (.pair (.int .i64) (.int .i64))]⟩),
  (40, ⟨.slc 56 (.pair (.int .i64) (.int .i64)), 1, 24, [.zc 56 (.pair (.int .i64) (.int .i64))]⟩),
  (41, ⟨.other, 1, 8, [.nilf]⟩),
  (42, ⟨.other, 1, 8, [.nilf]⟩),
  (43, ⟨.other, 1, 8, [.nilf]⟩),
  (44, ⟨.other, 1, 8, [.nilf]⟩),
  (45, ⟨.other, 1, 8, [.nilf]⟩),
  (46, ⟨.other, 1, 8, [.nilf]⟩),
  (47, ⟨.other, 1, 8, [.nilf]⟩),
  (48, ⟨.other, 1, 8, [.nilf]⟩),
  (49, ⟨.other, 1, 8, [.nilf]⟩),
  (51, ⟨.other, 1, 8, [.nilf]⟩),
  (52, ⟨.other, 1, 8, [.nilf]⟩),
  (53, ⟨.other, 1, 8, [.nilf]⟩),
  (54, ⟨.other, 1, 8, [.nilf]⟩),
  (55, ⟨.strct [⟨0, 1, false⟩, ⟨1, 1, false⟩], 2, 16, [.int .i64 0, .int .i64 0]⟩),
  (56, ⟨.strct [⟨0, 1, false⟩, ⟨1, 1, false⟩], 2, 16, [.int .i64 0, .int .i64 0]⟩),
  (57, ⟨.other, 1, 8, [.nilf]⟩),
  (58, ⟨.int .u64, 1, 8, [.int .u64 0]⟩),
  (59, ⟨.other, 1, 8, [.nilf]⟩),
  (60, ⟨.other, 1, 8, [.nilf]⟩),
  (61, ⟨.other, 1, 8, [.nilf]⟩),
  (62, ⟨.other, 1, 8, [.nilf]⟩),
  (63, ⟨.other, 1, 8, [.nilf]⟩),
  (64, ⟨.other, 1, 8, [.nilf]⟩),
  (65, ⟨.other, 1, 8, [.nilf]⟩),
  (66, ⟨.other, 1, 8, [.nilf]⟩),
  (67, ⟨.other, 1, 8, [.nilf]⟩),
  (68, ⟨.other, 1, 8, [.nilf]⟩),
  (69, ⟨.other, 1, 8, [.nilf]⟩),
  (71, ⟨.other, 1, 8, [.nilf]⟩),
  (72, ⟨.other, 1, 8, [.nilf]⟩),
  (73, ⟨.other, 1, 8, [.nilf]⟩),
  (74, ⟨.other, 1, 8, [.nilf]⟩),
  (75, ⟨.strct [⟨0, 1, false⟩, ⟨1, 1, false⟩, ⟨2, 1, false⟩], 3, 40, [.zc 5 (.int .u8), .int .i64 0, .int .i64 0]⟩),
  (76, ⟨.strct [⟨0, 1, false⟩, ⟨1, 1, false⟩, ⟨2, 1, false⟩], 3, 40, [.zc 5 (.int .u8), .int .i64 0, .int .i64 0]⟩),
  (77, ⟨.other, 1, 8, [.nilf]⟩),
  (78, ⟨.other, 1, 8, [.nilf]⟩),
  (79, ⟨.other, 1, 8, [.nilf]⟩),
  (80, ⟨.other, 1, 8, [.nilf]⟩),
  (81, ⟨.other, 1, 8, [.nilf]⟩),
  (82, ⟨.other, 1, 8, [.nilf]⟩),
  (83, ⟨.other, 1, 8, [.nilf]⟩),
  (84, ⟨.other, 1, 8, [.nilf]⟩),
  (85, ⟨.other, 1, 8, [.nilf]⟩),
  (86, ⟨.other, 1, 8, [.nilf]⟩),
  (87, ⟨.int .i64, 1, 8, [.int .i64 0]⟩),
  (89, ⟨.other, 1, 8, [.nilf]⟩),
  (90, ⟨.other, 1, 8, [.nilf]⟩),
  (91, ⟨.other, 1, 8, [.nilf]⟩),
  (92, ⟨.other, 1, 8, [.nilf]⟩),
  (93, ⟨.other, 1, 8, [.nilf]⟩),
  (94, ⟨.int .u32, 1, 4, [.int .u32 0]⟩),
  (95, ⟨.other, 1, 8, [.nilf]⟩),
  (96, ⟨.int .u64, 1, 8, [.int .u64 0]⟩),
  (97, ⟨.other, 1, 8, [.nilf]⟩),
  (98, ⟨.int .u64, 1, 8, [.int .u64 0]⟩),
  (99, ⟨.other, 1, 8, [.nilf]⟩),
  (100, ⟨.other, 1, 8, [.nilf]⟩),
  (101, ⟨.other, 1, 8, [.nilf]⟩),
  (103, ⟨.other, 1, 8, [.nilf]⟩),
  (104, ⟨.other, 1, 8, [.nilf]⟩),
  (107, ⟨.other, 1, 8, [.nilf]⟩),
  (108, ⟨.other, 1, 8, [.nilf]⟩),
  (109, ⟨.other, 1, 8, [.nilf]⟩),
  (110, ⟨.other, 1, 8, [.nilf]⟩),
  (111, ⟨.other, 1, 8, [.nilf]⟩),
  (112, ⟨.other, 1, 8, [.nilf]⟩),
  (113, ⟨.other, 1, 8, [.nilf]⟩),
  (114, ⟨.other, 1, 8, [.nilf]⟩),
  (115, ⟨.arr 32 5, 32, 32, [.int .u8 0, .int .u8 0, .int .u8 0, .int .u8 0, .int .u8 0, .int .u8 0, .int .u8 0, .int .u8 0, .int .u8 0, .int .u8 0, .int .u8 0, .int .u8 0, .int .u8 0, .int .u8 0, .int .u8 0, .int .u8 0, .int .u8 0, .int .u8 0, .int .u8 0, .int .u8 0, .int .u8 0, .int .u8 0, .int .u8 0, .int .u8 0, .int .u8 0, .int .u8 0, .int .u8 0, .int .u8 0, .int .u8 0, .int .u8 0, .int .u8 0, .int .u8 0]⟩),
  (116, ⟨.arr 64 5, 64, 64, [.int .u8 0, .int .u8 0, .int .u8 0, .int .u8 0, .int .u8 0, .int .u8 0, .int .u8 0, .int .u8 0, .int .u8 0, .int .u8 0, .int .u8 0, .int .u8 0, .int .u8 0, .int .u8 0, .int .u8 0, .int .u8 0, .int .u8 0, .int .u8 0, .int .u8 0, .int .u8 0, .int .u8 0, .int .u8 0, .int .u8 0, .int .u8 0, .int .u8 0, .int .u8 0, .int .u8 0, .int .u8 0, .int .u8 0, .int .u8 0, .int .u8 0, .int .u8 0, .int .u8 0, .int .u8 0, .int .u8 0, .int .u8 0, .int .u8 0, .int .u8 0, .int .u8 0, .int .u8 0, .int .u8 0, .int .u8 0, .int .u8 0, .int .u8 0, .int .u8 0, .int .u8 0, .int .u8 0, .int .u8 0, .int .u8 0, .int .u8 0, .int .u8 0, .int .u8 0, .int .u8 0, .int .u8 0, .int .u8 0, .int .u8 0, .int .u8 0, .int .u8 0, .int .u8 0, .int .u8 0, .int .u8 0, .int .u8 0, .int .u8 0, .int .u8 0]⟩),
  (117, ⟨.other, 1, 8, [.nilf]⟩),
  (118, ⟨.other, 1, 8, [.nilf]⟩),
  (119, ⟨.strct [⟨0, 1, false⟩, ⟨1, 1, false⟩, ⟨2, 1, false⟩, ⟨3, 1, false⟩], 4, 40, [.nilp, .nilp, .nilp, .str ⟨#[]⟩]⟩),
  (120, ⟨.strct [⟨0, 1, false⟩, ⟨1, 1, false⟩, ⟨2, 1, false⟩, ⟨3, 1, false⟩], 4, 40, [.nilp, .nilp, .nilp, .str ⟨#[]⟩]⟩),
  (124, ⟨.other, 1, 8, [.nilf]⟩),
  (125, ⟨.int .u8, 1, 1, [.int .u8 0]⟩),
  (126, ⟨.int .u8, 1, 1, [.int .u8 0]⟩),
  (127, ⟨.other, 1, 8, [.nilf]⟩),
  (129, ⟨.int .i32, 1, 4, [.int .i32 0]⟩),
  (130, ⟨.int .i32, 1, 4, [.int .i32 0]⟩),
  (131, ⟨.strct [⟨0, 1, false⟩, ⟨1, 1, false⟩, ⟨2, 1, false⟩, ⟨3, 1, false⟩, ⟨4, 1, false⟩, ⟨5, 1, false⟩, ⟨6, 1, false⟩, ⟨7, 1, false⟩, ⟨8, 1, false⟩, ⟨9, 1, false⟩, ⟨10, 1, false⟩], 11, 48, [.int .u64 0, .int .u64 0, .int .u32 0, .int .u8 0, .int .u8 0, .int .u8 0, .int .u8 0, .nilf, .nilp, .int .i32 0, .int .i32 0]⟩),
  (132, ⟨.strct [⟨0, 1, false⟩, ⟨1, 1, false⟩, ⟨2, 1, false⟩, ⟨3, 1, false⟩, ⟨4, 1, false⟩, ⟨5, 1, false⟩, ⟨6, 1, false⟩, ⟨7, 1, false⟩, ⟨8, 1, false⟩, ⟨9, 1, false⟩, ⟨10, 1, false⟩], 11, 48, [.int .u64 0, .int .u64 0, .int .u32 0, .int .u8 0, .int .u8 0, .int .u8 0, .int .u8 0, .nilf, .nilp, .int .i32 0, .int .i32 0]⟩),
  (133, ⟨.other, 1, 8, [.nilf]⟩)]
theorem tyOk {E : Env} (h : E.tab = tab) : TyOk Tryz.prog E := by
  unfold TyOk
  rw [h]
  refine ?_
  unfold tab
  refine List.forall_mem_cons.2 ⟨⟨by kernel_rfl, by kernel_rfl, by kernel_rfl, by decide, by decide, by kernel_rfl⟩, ?_⟩
  refine List.forall_mem_cons.2 ⟨⟨by kernel_rfl, by kernel_rfl, by kernel_rfl, by decide, by decide, by kernel_rfl⟩, ?_⟩
  refine List.forall_mem_cons.2 ⟨⟨by kernel_rfl, by kernel_rfl, by kernel_rfl, by decide, by decide, by kernel_rfl⟩, ?_⟩
  refine List.forall_mem_cons.2 ⟨⟨by kernel_rfl, by kernel_rfl, by kernel_rfl, by decide, by decide, by kernel_rfl⟩, ?_⟩
  refine List.forall_mem_cons.2 ⟨⟨by kernel_rfl, by kernel_rfl, by kernel_rfl, by decide, by decide, by kernel_rfl⟩, ?_⟩
  refine List.forall_mem_cons.2 ⟨⟨by kernel_rfl, by kernel_rfl, by kernel_rfl, by decide, by decide, by kernel_rfl⟩, ?_⟩
  refine List.forall_mem_cons.2 ⟨⟨by kernel_rfl, by kernel_rfl, by kernel_rfl, by decide, by decide, by kernel_rfl⟩, ?_⟩
  refine List.forall_mem_cons.2 ⟨⟨by kernel_rfl, by kernel_rfl, by kernel_rfl, by decide, by decide, by kernel_rfl⟩, ?_⟩
  refine List.forall_mem_cons.2 ⟨⟨by kernel_rfl, by kernel_rfl, by kernel_rfl, by decide, by decide, by kernel_rfl⟩, ?_⟩
  refine List.forall_mem_cons.2 ⟨⟨by kernel_rfl, by kernel_rfl, by kernel_rfl, by decide, by decide, by kernel_rfl⟩, ?_⟩
  refine List.forall_mem_cons.2 ⟨⟨by kernel_rfl, by kernel_rfl, by kernel_rfl, by decide, by decide, by kernel_rfl⟩, ?_⟩
  refine List.forall_mem_cons.2 ⟨⟨by kernel_rfl, by kernel_rfl, by kernel_rfl, by decide, by decide, by kernel_rfl⟩, ?_⟩
  refine List.forall_mem_cons.2 ⟨⟨by kernel_rfl, by kernel_rfl, by kernel_rfl, by decide, by decide, by kernel_rfl⟩, ?_⟩
  refine List.forall_mem_cons.2 ⟨⟨by kernel_rfl, by kernel_rfl, by kernel_rfl, by decide, by decide, by kernel_rfl⟩, ?_⟩
  refine List.forall_mem_cons.2 ⟨⟨by kernel_rfl, by kernel_rfl, by kernel_rfl, by decide, by decide, by kernel_rfl⟩, ?_⟩
  refine List.forall_mem_cons.2 ⟨⟨by kernel_rfl, by kernel_rfl, by kernel_rfl, by decide, by decide, by kernel_rfl⟩, ?_⟩
  refine List.forall_mem_cons.2 ⟨⟨by kernel_rfl, by kernel_rfl, by kernel_rfl, by decide, by decide, by kernel_rfl⟩, ?_⟩
  refine List.forall_mem_cons.2 ⟨⟨by kernel_rfl, by kernel_rfl, by kernel_rfl, by decide, by decide, by kernel_rfl⟩, ?_⟩
  refine List.forall_mem_cons.2 ⟨⟨by kernel_rfl, by kernel_rfl, by kernel_rfl, by decide, by decide, by kernel_rfl⟩, ?_⟩
  refine List.forall_mem_cons.2 ⟨⟨by kernel_rfl, by kernel_rfl, by kernel_rfl, by decide, by decide, by kernel_rfl⟩, ?_⟩
  refine List.forall_mem_cons.2 ⟨⟨by kernel_rfl, by kernel_rfl, by kernel_rfl, by decide, by decide, by kernel_rfl⟩, ?_⟩
  refine List.forall_mem_cons.2 ⟨⟨by kernel_rfl, by kernel_rfl, by kernel_rfl, by decide, by decide, by kernel_rfl⟩, ?_⟩
  refine List.forall_mem_cons.2 ⟨⟨by kernel_rfl, by kernel_rfl, by kernel_rfl, by decide, by decide, by kernel_rfl⟩, ?_⟩
  refine List.forall_mem_cons.2 ⟨⟨by kernel_rfl, by kernel_rfl, by kernel_rfl, by decide, by decide, by kernel_rfl⟩, ?_⟩
  refine List.forall_mem_cons.2 ⟨⟨by kernel_rfl, by kernel_rfl, by kernel_rfl, by decide, by decide, by kernel_rfl⟩, ?_⟩
  refine List.forall_mem_cons.2 ⟨⟨by kernel_rfl, by kernel_rfl, by kernel_rfl, by decide, by decide, by kernel_rfl⟩, ?_⟩
  refine List.forall_mem_cons.2 ⟨⟨by kernel_rfl, by kernel_rfl, by kernel_rfl, by decide, by decide, by kernel_rfl⟩, ?_⟩
  refine List.forall_mem_cons.2 ⟨⟨by kernel_rfl, by kernel_rfl, by kernel_rfl, by decide, by decide, by kernel_rfl⟩, ?_⟩
  refine List.forall_mem_cons.2 ⟨⟨by kernel_rfl, by kernel_rfl, by kernel_rfl, by decide, by decide, by kernel_rfl⟩, ?_⟩
  refine List.forall_mem_cons.2 ⟨⟨by kernel_rfl, by kernel_rfl, by kernel_rfl, by decide, by decide, by kernel_rfl⟩, ?_⟩
  refine List.forall_mem_cons.2 ⟨⟨by kernel_rfl, by kernel_rfl, by kernel_rfl, by decide, by decide, by kernel_rfl⟩, ?_⟩
  refine List.forall_mem_cons.2 ⟨⟨by kernel_rfl, by kernel_rfl, by kernel_rfl, by decide, by decide, by kernel_rfl⟩, ?_⟩
  refine List.forall_mem_cons.2 ⟨⟨by kernel_rfl, by kernel_rfl, by kernel_rfl, by decide, by decide, by kernel_rfl⟩, ?_⟩
  refine List.forall_mem_cons.2 ⟨⟨by kernel_rfl, by kernel_rfl, by kernel_rfl, by decide, by decide, by kernel_rfl⟩, ?_⟩
  refine List.forall_mem_cons.2 ⟨⟨by kernel_rfl, by kernel_rfl, by kernel_rfl, by decide, by decide, by kernel_rfl⟩, ?_⟩
  refine List.forall_mem_cons.2 ⟨⟨by kernel_rfl, by kernel_rfl, by kernel_rfl, by decide, by decide, by kernel_rfl⟩, ?_⟩
  refine List.forall_mem_cons.2 ⟨⟨by kernel_rfl, by kernel_rfl, by kernel_rfl, by decide, by decide, by kernel_rfl⟩, ?_⟩
  refine List.forall_mem_cons.2 ⟨⟨by kernel_rfl, by kernel_rfl, by kernel_rfl, by decide, by decide, by kernel_rfl⟩, ?_⟩
  refine List.forall_mem_cons.2 ⟨⟨by kernel_rfl, by kernel_rfl, by kernel_rfl, by decide, by decide, by kernel_rfl⟩, ?_⟩
  refine List.forall_mem_cons.2 ⟨⟨by kernel_rfl, by kernel_rfl, by kernel_rfl, by decide, by decide, by kernel_rfl⟩, ?_⟩
  refine List.forall_mem_cons.2 ⟨⟨by kernel_rfl, by kernel_rfl, by kernel_rfl, by decide, by decide, by kernel_rfl⟩, ?_⟩
  refine List.forall_mem_cons.2 ⟨⟨by kernel_rfl, by kernel_rfl, by kernel_rfl, by decide, by decide, by kernel_rfl⟩, ?_⟩
  refine List.forall_mem_cons.2 ⟨⟨by kernel_rfl, by kernel_rfl, by kernel_rfl, by decide, by decide, by kernel_rfl⟩, ?_⟩
  refine List.forall_mem_cons.2 ⟨⟨by kernel_rfl, by kernel_rfl, by kernel_rfl, by decide, by decide, by kernel_rfl⟩, ?_⟩
  refine List.forall_mem_cons.2 ⟨⟨by kernel_rfl, by kernel_rfl, by kernel_rfl, by decide, by decide, by kernel_rfl⟩, ?_⟩
  refine List.forall_mem_cons.2 ⟨⟨by kernel_rfl, by kernel_rfl, by kernel_rfl, by decide, by decide, by kernel_rfl⟩, ?_⟩
  refine List.forall_mem_cons.2 ⟨⟨by kernel_rfl, by kernel_rfl, by kernel_rfl, by decide, by decide, by kernel_rfl⟩, ?_⟩
  refine List.forall_mem_cons.2 ⟨⟨by kernel_rfl, by kernel_rfl, by kernel_rfl, by decide, by decide, by kernel_rfl⟩, ?_⟩
  refine List.forall_mem_cons.2 ⟨⟨by kernel_rfl, by kernel_rfl, by kernel_rfl, by decide, by decide, by kernel_rfl⟩, ?_⟩
  refine List.forall_mem_cons.2 ⟨⟨by kernel_rfl, by kernel_rfl, by kernel_rfl, by decide, by decide, by kernel_rfl⟩, ?_⟩
  refine List.forall_mem_cons.2 ⟨⟨by kernel_rfl, by kernel_rfl, by kernel_rfl, by decide, by decide, by kernel_rfl⟩, ?_⟩
  refine List.forall_mem_cons.2 ⟨⟨by kernel_rfl, by kernel_rfl, by kernel_rfl, by decide, by decide, by kernel_rfl⟩, ?_⟩
  refine List.forall_mem_cons.2 ⟨⟨by kernel_rfl, by kernel_rfl, by kernel_rfl, by decide, by decide, by kernel_rfl⟩, ?_⟩
  refine List.forall_mem_cons.2 ⟨⟨by kernel_rfl, by kernel_rfl, by kernel_rfl, by decide, by decide, by kernel_rfl⟩, ?_⟩
  refine List.forall_mem_cons.2 ⟨⟨by kernel_rfl, by kernel_rfl, by kernel_rfl, by decide, by decide, by kernel_rfl⟩, ?_⟩
  refine List.forall_mem_cons.2 ⟨⟨by kernel_rfl, by kernel_rfl, by kernel_rfl, by decide, by decide, by kernel_rfl⟩, ?_⟩
  refine List.forall_mem_cons.2 ⟨⟨by kernel_rfl, by kernel_rfl, by kernel_rfl, by decide, by decide, by kernel_rfl⟩, ?_⟩
  refine List.forall_mem_cons.2 ⟨⟨by kernel_rfl, by kernel_rfl, by kernel_rfl, by decide, by decide, by kernel_rfl⟩, ?_⟩
  refine List.forall_mem_cons.2 ⟨⟨by kernel_rfl, by kernel_rfl, by kernel_rfl, by decide, by decide, by kernel_rfl⟩, ?_⟩
  refine List.forall_mem_cons.2 ⟨⟨by kernel_rfl, by kernel_rfl, by kernel_rfl, by decide, by decide, by kernel_rfl⟩, ?_⟩
  refine List.forall_mem_cons.2 ⟨⟨by kernel_rfl, by kernel_rfl, by kernel_rfl, by decide, by decide, by kernel_rfl⟩, ?_⟩
  refine List.forall_mem_cons.2 ⟨⟨by kernel_rfl, by kernel_rfl, by kernel_rfl, by decide, by decide, by kernel_rfl⟩, ?_⟩
  refine List.forall_mem_cons.2 ⟨⟨by kernel_rfl, by kernel_rfl, by kernel_rfl, by decide, by decide, by kernel_rfl⟩, ?_⟩
  refine List.forall_mem_cons.2 ⟨⟨by kernel_rfl, by kernel_rfl, by kernel_rfl, by decide, by decide, by kernel_rfl⟩, ?_⟩
  refine List.forall_mem_cons.2 ⟨⟨by kernel_rfl, by kernel_rfl, by kernel_rfl, by decide, by decide, by kernel_rfl⟩, ?_⟩
  refine List.forall_mem_cons.2 ⟨⟨by kernel_rfl, by kernel_rfl, by kernel_rfl, by decide, by decide, by kernel_rfl⟩, ?_⟩
  refine List.forall_mem_cons.2 ⟨⟨by kernel_rfl, by kernel_rfl, by kernel_rfl, by decide, by decide, by kernel_rfl⟩, ?_⟩
  refine List.forall_mem_cons.2 ⟨⟨by kernel_rfl, by kernel_rfl, by kernel_rfl, by decide, by decide, by kernel_rfl⟩, ?_⟩
  refine List.forall_mem_cons.2 ⟨⟨by kernel_rfl, by kernel_rfl, by kernel_rfl, by decide, by decide, by kernel_rfl⟩, ?_⟩
  refine List.forall_mem_cons.2 ⟨⟨by kernel_rfl, by kernel_rfl, by kernel_rfl, by decide, by decide, by kernel_rfl⟩, ?_⟩
  refine List.forall_mem_cons.2 ⟨⟨by kernel_rfl, by kernel_rfl, by kernel_rfl, by decide, by decide, by kernel_rfl⟩, ?_⟩
  refine List.forall_mem_cons.2 ⟨⟨by kernel_rfl, by kernel_rfl, by kernel_rfl, by decide, by decide, by kernel_rfl⟩, ?_⟩
  refine List.forall_mem_cons.2 ⟨⟨by kernel_rfl, by kernel_rfl, by kernel_rfl, by decide, by decide, by kernel_rfl⟩, ?_⟩
  refine List.forall_mem_cons.2 ⟨⟨by kernel_rfl, by kernel_rfl, by kernel_rfl, by decide, by decide, by kernel_rfl⟩, ?_⟩
  refine List.forall_mem_cons.2 ⟨⟨by kernel_rfl, by kernel_rfl, by kernel_rfl, by decide, by decide, by kernel_rfl⟩, ?_⟩
  refine List.forall_mem_cons.2 ⟨⟨by kernel_rfl, by kernel_rfl, by kernel_rfl, by decide, by decide, by kernel_rfl⟩, ?_⟩
  refine List.forall_mem_cons.2 ⟨⟨by kernel_rfl, by kernel_rfl, by kernel_rfl, by decide, by decide, by kernel_rfl⟩, ?_⟩
  refine List.forall_mem_cons.2 ⟨⟨by kernel_rfl, by kernel_rfl, by kernel_rfl, by decide, by decide, by kernel_rfl⟩, ?_⟩
  refine List.forall_mem_cons.2 ⟨⟨by kernel_rfl, by kernel_rfl, by kernel_rfl, by decide, by decide, by kernel_rfl⟩, ?_⟩
  refine List.forall_mem_cons.2 ⟨⟨by kernel_rfl, by kernel_rfl, by kernel_rfl, by decide, by decide, by kernel_rfl⟩, ?_⟩
  refine List.forall_mem_cons.2 ⟨⟨by kernel_rfl, by kernel_rfl, by kernel_rfl, by decide, by decide, by kernel_rfl⟩, ?_⟩
  refine List.forall_mem_cons.2 ⟨⟨by kernel_rfl, by kernel_rfl, by kernel_rfl, by decide, by decide, by kernel_rfl⟩, ?_⟩
  refine List.forall_mem_cons.2 ⟨⟨by kernel_rfl, by kernel_rfl, by kernel_rfl, by decide, by decide, by kernel_rfl⟩, ?_⟩
  refine List.forall_mem_cons.2 ⟨⟨by kernel_rfl, by kernel_rfl, by kernel_rfl, by decide, by decide, by kernel_rfl⟩, ?_⟩
  refine List.forall_mem_cons.2 ⟨⟨by kernel_rfl, by kernel_rfl, by kernel_rfl, by decide, by decide, by kernel_rfl⟩, ?_⟩
  refine List.forall_mem_cons.2 ⟨⟨by kernel_rfl, by kernel_rfl, by kernel_rfl, by decide, by decide, by kernel_rfl⟩, ?_⟩
  refine List.forall_mem_cons.2 ⟨⟨by kernel_rfl, by kernel_rfl, by kernel_rfl, by decide, by decide, by kernel_rfl⟩, ?_⟩
  refine List.forall_mem_cons.2 ⟨⟨by kernel_rfl, by kernel_rfl, by kernel_rfl, by decide, by decide, by kernel_rfl⟩, ?_⟩
  refine List.forall_mem_cons.2 ⟨⟨by kernel_rfl, by kernel_rfl, by kernel_rfl, by decide, by decide, by kernel_rfl⟩, ?_⟩
  refine List.forall_mem_cons.2 ⟨⟨by kernel_rfl, by kernel_rfl, by kernel_rfl, by decide, by decide, by kernel_rfl⟩, ?_⟩
  refine List.forall_mem_cons.2 ⟨⟨by kernel_rfl, by kernel_rfl, by kernel_rfl, by decide, by decide, by kernel_rfl⟩, ?_⟩
  refine List.forall_mem_cons.2 ⟨⟨by kernel_rfl, by kernel_rfl, by kernel_rfl, by decide, by decide, by kernel_rfl⟩, ?_⟩
  refine List.forall_mem_cons.2 ⟨⟨by kernel_rfl, by kernel_rfl, by kernel_rfl, by decide, by decide, by kernel_rfl⟩, ?_⟩
  refine List.forall_mem_cons.2 ⟨⟨by kernel_rfl, by kernel_rfl, by kernel_rfl, by decide, by decide, by kernel_rfl⟩, ?_⟩
  refine List.forall_mem_cons.2 ⟨⟨by kernel_rfl, by kernel_rfl, by kernel_rfl, by decide, by decide, by kernel_rfl⟩, ?_⟩
  refine List.forall_mem_cons.2 ⟨⟨by kernel_rfl, by kernel_rfl, by kernel_rfl, by decide, by decide, by kernel_rfl⟩, ?_⟩
  refine List.forall_mem_cons.2 ⟨⟨by kernel_rfl, by kernel_rfl, by kernel_rfl, by decide, by decide, by kernel_rfl⟩, ?_⟩
  refine List.forall_mem_cons.2 ⟨⟨by kernel_rfl, by kernel_rfl, by kernel_rfl, by decide, by decide, by kernel_rfl⟩, ?_⟩
  refine List.forall_mem_cons.2 ⟨⟨by kernel_rfl, by kernel_rfl, by kernel_rfl, by decide, by decide, by kernel_rfl⟩, ?_⟩
  refine List.forall_mem_cons.2 ⟨⟨by kernel_rfl, by kernel_rfl, by kernel_rfl, by decide, by decide, by kernel_rfl⟩, ?_⟩
  refine List.forall_mem_cons.2 ⟨⟨by kernel_rfl, by kernel_rfl, by kernel_rfl, by decide, by decide, by kernel_rfl⟩, ?_⟩
  refine List.forall_mem_cons.2 ⟨⟨by kernel_rfl, by kernel_rfl, by kernel_rfl, by decide, by decide, by kernel_rfl⟩, ?_⟩
  refine List.forall_mem_cons.2 ⟨⟨by kernel_rfl, by kernel_rfl, by kernel_rfl, by decide, by decide, by kernel_rfl⟩, ?_⟩
  refine List.forall_mem_cons.2 ⟨⟨by kernel_rfl, by kernel_rfl, by kernel_rfl, by decide, by decide, by kernel_rfl⟩, ?_⟩
  refine List.forall_mem_cons.2 ⟨⟨by kernel_rfl, by kernel_rfl, by kernel_rfl, by decide, by decide, by kernel_rfl⟩, ?_⟩
  refine List.forall_mem_cons.2 ⟨⟨by kernel_rfl, by kernel_rfl, by kernel_rfl, by decide, by decide, by kernel_rfl⟩, ?_⟩
  refine List.forall_mem_cons.2 ⟨⟨by kernel_rfl, by kernel_rfl, by kernel_rfl, by decide, by decide, by kernel_rfl⟩, ?_⟩
  refine List.forall_mem_cons.2 ⟨⟨by kernel_rfl, by kernel_rfl, by kernel_rfl, by decide, by decide, by kernel_rfl⟩, ?_⟩
  refine List.forall_mem_cons.2 ⟨⟨by kernel_rfl, by kernel_rfl, by kernel_rfl, by decide, by decide, by kernel_rfl⟩, ?_⟩
  refine List.forall_mem_cons.2 ⟨⟨by kernel_rfl, by kernel_rfl, by kernel_rfl, by decide, by decide, by kernel_rfl⟩, ?_⟩
  refine List.forall_mem_cons.2 ⟨⟨by kernel_rfl, by kernel_rfl, by kernel_rfl, by decide, by decide, by kernel_rfl⟩, ?_⟩
  refine List.forall_mem_cons.2 ⟨⟨by kernel_rfl, by kernel_rfl, by kernel_rfl, by decide, by decide, by kernel_rfl⟩, ?_⟩
  refine List.forall_mem_cons.2 ⟨⟨by kernel_rfl, by kernel_rfl, by kernel_rfl, by decide, by decide, by kernel_rfl⟩, ?_⟩
  refine List.forall_mem_cons.2 ⟨⟨by kernel_rfl, by kernel_rfl, by kernel_rfl, by decide, by decide, by kernel_rfl⟩, ?_⟩
  refine List.forall_mem_cons.2 ⟨⟨by kernel_rfl, by kernel_rfl, by kernel_rfl, by decide, by decide, by kernel_rfl⟩, ?_⟩
  refine List.forall_mem_cons.2 ⟨⟨by kernel_rfl, by kernel_rfl, by kernel_rfl, by decide, by decide, by kernel_rfl⟩, ?_⟩
  refine List.forall_mem_cons.2 ⟨⟨by kernel_rfl, by kernel_rfl, by kernel_rfl, by decide, by decide, by kernel_rfl⟩, ?_⟩
  exact fun p hp => absurd hp (by simp)
theorem mixed : Tryz.prog.follows .mixedOrders = true := by kernel_rfl
instance : Globs := { tab := [(1, .u8, [0, 1, 56, 2, 57, 49, 28, 3, 61, 58, 42, 50, 38, 29, 17, 4, 62, 47, 59, 36, 45, 43, 51, 22, 53, 39, 33, 30, 24, 18, 12, 5, 63, 55, 48, 27, 60, 41, 37, 16, 46, 35, 44, 21, 52, 32, 23, 11, 54, 26, 40, 15, 34, 20, 31, 10, 25, 14, 19, 9, 13, 8, 7, 6])], nst := [], nsr := [], held := [] }
instance : Dm := ⟨True⟩
theorem laid : laidOutB Tryz.prog = true := by kernel_rfl
end Go.Sym
