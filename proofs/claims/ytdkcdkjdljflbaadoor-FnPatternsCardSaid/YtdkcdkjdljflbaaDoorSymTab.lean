/- The seat's table of types, and that it says of the loaded program what is so. -/
import Derived.Test.YtdkcdkjdljflbaaDoorSymW
import Derived.Test.YtdkcdkjdljflbaaDoorProg
import Derived.KernelRfl
namespace Go.Sym
open Go.Proofs
set_option linter.unusedVariables false
set_option linter.unusedSimpArgs false
set_option maxRecDepth 100000
def tab : List (TypeId × TI) := [
  (1, ⟨.other, 1, 8, [.nilf]⟩),
  (2, ⟨.int .i64, 1, 8, [.int .i64 0]⟩),
  (3, ⟨.int .i64, 1, 8, [.int .i64 0]⟩),
  (4, ⟨.bool, 1, 1, [.bool false]⟩),
  (5, ⟨.int .u8, 1, 1, [.int .u8 0]⟩),
  (6, ⟨.int .u8, 1, 1, [.int .u8 0]⟩),
  (7, ⟨.strct [⟨0, 1, false⟩, ⟨1, 1, false⟩, ⟨2, 1, false⟩, ⟨3, 1, false⟩], 4, 24, [.int .i64 0, .int .i64 0, .bool false, .int .u8 0]⟩),
  (8, ⟨.strct [⟨0, 1, false⟩, ⟨1, 1, false⟩, ⟨2, 1, false⟩, ⟨3, 1, false⟩], 4, 24, [.int .i64 0, .int .i64 0, .bool false, .int .u8 0]⟩),
  (9, ⟨.str, 1, 16, [.str ⟨#[]⟩]⟩),
  (10, ⟨.str, 1, 16, [.str ⟨#[]⟩]⟩),
  (11, ⟨.str, 1, 16, [.str ⟨#[]⟩]⟩),
  (12, ⟨.int .u64, 1, 8, [.int .u64 0]⟩),
  (13, ⟨.strct [⟨0, 1, false⟩, ⟨1, 1, false⟩], 2, 24, [.str ⟨#[]⟩, .int .u64 0]⟩),
  (14, ⟨.strct [⟨0, 1, false⟩, ⟨1, 1, false⟩], 2, 24, [.str ⟨#[]⟩, .int .u64 0]⟩),
  (18, ⟨.strct [⟨0, 1, false⟩], 1, 8, [.nilp]⟩),
  (19, ⟨.strct [⟨0, 1, false⟩], 1, 8, [.nilp]⟩),
  (21, ⟨.int .i32, 1, 4, [.int .i32 0]⟩),
  (22, ⟨.slc 5 (.int .u8), 1, 24, [.zc 5 (.int .u8)]⟩),
  (23, ⟨.other, 1, 8, [.nilf]⟩),
  (24, ⟨.slc 27 (.lst (.int .i64)), 1, 24, [.zc 27 (.lst (.int .i64))]⟩),
  (26, ⟨.other, 1, 8, [.nilf]⟩),
  (27, ⟨.slc 3 (.int .i64), 1, 24, [.zc 3 (.int .i64)]⟩),
  (28, ⟨.strct [⟨0, 1, false⟩, ⟨1, 1, false⟩], 2, 48, [.zc 3 (.int .i64), .zc 3 (.int .i64)]⟩),
  (29, ⟨.strct [⟨0, 1, false⟩, ⟨1, 1, false⟩], 2, 48, [.zc 3 (.int .i64), .zc 3 (.int .i64)]⟩),
  (31, ⟨.other, 1, 8, [.nilf]⟩),
  (33, ⟨.other, 1, 8, [.nilf]⟩),
  (34, ⟨.other, 1, 8, [.nilf]⟩),
  (36, ⟨.other, 1, 8, [.nilf]⟩),
  (37, ⟨.other, 1, 8, [.nilf]⟩),
  (38, ⟨.other, 1, 8, [.nilf]⟩),
  (39, ⟨.other, 1, 8, [.nilf]⟩),
  (40, ⟨.other, 1, 8, [.nilf]⟩),
  (41, ⟨.other, 1, 8, [.nilf]⟩),
  (42, ⟨.other, 1, 8, [.nilf]⟩),
  (43, ⟨.other, 1, 8, [.nilf]⟩),
  (44, ⟨.other, 1, 8, [.nilf]⟩),
  (45, ⟨.other, 1, 8, [.nilf]⟩),
  (46, ⟨.strct [⟨0, 1, false⟩, ⟨1, 1, false⟩], 2, 32, [.int .i64 0, .zc 3 (.int .i64)]⟩),
  (47, ⟨.strct [⟨0, 1, false⟩, ⟨1, 1, false⟩], 2, 32, [.int .i64 0, .zc 3 (.int .i64)]⟩),
  (48, ⟨.other, 1, 8, [.nilf]⟩),
  (49, ⟨.other, 1, 8, [.nilf]⟩),
  (51, ⟨.other, 1, 8, [.nilf]⟩),
  (53, ⟨.other, 1, 8, [.nilf]⟩),
  (54, ⟨.other, 1, 8, [.nilf]⟩),
  (55, ⟨.slc 59 (.pair (.int .i64) (.int .i64)), 1, 24, [.zc 59 (.pair (.int .i64) (.int .i64))]⟩),
  (56, ⟨.other, 1, 8, [.nilf]⟩),
  (57, ⟨.other, 1, 8, [.nilf]⟩),
  (58, ⟨.strct [⟨0, 1, false⟩, ⟨1, 1, false⟩], 2, 16, [.int .i64 0, .int .i64 0]⟩),
  (59, ⟨.strct [⟨0, 1, false⟩, ⟨1, 1, false⟩], 2, 16, [.int .i64 0, .int .i64 0]⟩),
  (60, ⟨.other, 1, 8, [.nilf]⟩),
  (61, ⟨.int .u64, 1, 8, [.int .u64 0]⟩),
  (63, ⟨.other, 1, 8, [.nilf]⟩),
  (64, ⟨.other, 1, 8, [.nilf]⟩),
  (65, ⟨.other, 1, 8, [.nilf]⟩),
  (66, ⟨.other, 1, 8, [.nilf]⟩),
  (67, ⟨.other, 1, 8, [.nilf]⟩),
  (68, ⟨.other, 1, 8, [.nilf]⟩),
  (69, ⟨.other, 1, 8, [.nilf]⟩),
  (70, ⟨.other, 1, 8, [.nilf]⟩),
  (71, ⟨.other, 1, 8, [.nilf]⟩),
  (72, ⟨.other, 1, 8, [.nilf]⟩),
  (73, ⟨.other, 1, 8, [.nilf]⟩),
  (74, ⟨.slc 9 .str, 1, 24, [.zc 9 .str]⟩),
  (75, ⟨.other, 1, 8, [.nilf]⟩),
  (76, ⟨.other, 1, 8, [.nilf]⟩),
  (77, ⟨.other, 1, 8, [.nilf]⟩),
  (78, ⟨.other, 1, 8, [.nilf]⟩),
  (79, ⟨.other, 1, 8, [.nilf]⟩),
  (80, ⟨.other, 1, 8, [.nilf]⟩),
  (82, ⟨.other, 1, 8, [.nilf]⟩),
  (84, ⟨.other, 1, 8, [.nilf]⟩),
  (85, ⟨.other, 1, 8, [.nilf]⟩),
  (86, ⟨.other, 1, 8, [.nilf]⟩),
  (87, ⟨.other, 1, 8, [.nilf]⟩),
  (89, ⟨.other, 1, 8, [.nilf]⟩),
  (90, ⟨.strct [⟨0, 1, false⟩, ⟨1, 1, false⟩, ⟨2, 1, false⟩], 3, 40, [.zc 5 (.int .u8), .int .i64 0, .int .i64 0]⟩),
  (91, ⟨.strct [⟨0, 1, false⟩, ⟨1, 1, false⟩, ⟨2, 1, false⟩], 3, 40, [.zc 5 (.int .u8), .int .i64 0, .int .i64 0]⟩),
  (92, ⟨.other, 1, 8, [.nilf]⟩),
  (93, ⟨.other, 1, 8, [.nilf]⟩),
  (94, ⟨.other, 1, 8, [.nilf]⟩),
  (95, ⟨.other, 1, 8, [.nilf]⟩),
  (96, ⟨.other, 1, 8, [.nilf]⟩),
  (97, ⟨.other, 1, 8, [.nilf]⟩),
  (98, ⟨.slc 59 (.pair (.int .i64) (.int .i64)), 1, 24, [.zc 59 (.pair (.int .i64) (.int .i64))]⟩),
  (99, ⟨.other, 1, 8, [.nilf]⟩),
  (100, ⟨.other, 1, 8, [.nilf]⟩),
  (102, ⟨.strct [⟨0, 1, false⟩, ⟨1, 1, false⟩], 2, 32, [.nilp, .zc 5 (.int .u8)]⟩),
  (103, ⟨.strct [⟨0, 1, false⟩, ⟨1, 1, false⟩], 2, 32, [.nilp, .zc 5 (.int .u8)]⟩),
  (104, ⟨.other, 1, 8, [.nilf]⟩),
  (108, ⟨.other, 1, 8, [.nilf]⟩),
  (109, ⟨.other, 1, 8, [.nilf]⟩),
  (110, ⟨.other, 1, 8, [.nilf]⟩),
  (111, ⟨.other, 1, 8, [.nilf]⟩),
  (112, ⟨.other, 1, 8, [.nilf]⟩),
  (113, ⟨.int .u32, 1, 4, [.int .u32 0]⟩),
  (114, ⟨.other, 1, 8, [.nilf]⟩),
  (115, ⟨.int .u64, 1, 8, [.int .u64 0]⟩),
  (116, ⟨.other, 1, 8, [.nilf]⟩),
  (118, ⟨.other, 1, 8, [.nilf]⟩),
  (119, ⟨.arr 24 5, 24, 24, [.int .u8 0, .int .u8 0, .int .u8 0, .int .u8 0, .int .u8 0, .int .u8 0, .int .u8 0, .int .u8 0, .int .u8 0, .int .u8 0, .int .u8 0, .int .u8 0, .int .u8 0, .int .u8 0, .int .u8 0, .int .u8 0, .int .u8 0, .int .u8 0, .int .u8 0, .int .u8 0, .int .u8 0, .int .u8 0, .int .u8 0, .int .u8 0]⟩),
  (120, ⟨.other, 1, 8, [.nilf]⟩),
  (122, ⟨.other, 1, 8, [.nilf]⟩),
  (124, ⟨.other, 1, 8, [.nilf]⟩),
  (125, ⟨.other, 1, 8, [.nilf]⟩),
  (126, ⟨.other, 1, 8, [.nilf]⟩),
  (127, ⟨.arr 20 115, 20, 160, [.int .u64 0, .int .u64 0, .int .u64 0, .int .u64 0, .int .u64 0, .int .u64 0, .int .u64 0, .int .u64 0, .int .u64 0, .int .u64 0, .int .u64 0, .int .u64 0, .int .u64 0, .int .u64 0, .int .u64 0, .int .u64 0, .int .u64 0, .int .u64 0, .int .u64 0, .int .u64 0]⟩),
  (128, ⟨.arr 65 5, 65, 65, [.int .u8 0, .int .u8 0, .int .u8 0, .int .u8 0, .int .u8 0, .int .u8 0, .int .u8 0, .int .u8 0, .int .u8 0, .int .u8 0, .int .u8 0, .int .u8 0, .int .u8 0, .int .u8 0, .int .u8 0, .int .u8 0, .int .u8 0, .int .u8 0, .int .u8 0, .int .u8 0, .int .u8 0, .int .u8 0, .int .u8 0, .int .u8 0, .int .u8 0, .int .u8 0, .int .u8 0, .int .u8 0, .int .u8 0, .int .u8 0, .int .u8 0, .int .u8 0, .int .u8 0, .int .u8 0, .int .u8 0, .int .u8 0, .int .u8 0, .int .u8 0, .int .u8 0, .int .u8 0, .int .u8 0, .int .u8 0, .int .u8 0, .int .u8 0, .int .u8 0, .int .u8 0, .int .u8 0, .int .u8 0, .int .u8 0, .int .u8 0, .int .u8 0, .int .u8 0, .int .u8 0, .int .u8 0, .int .u8 0, .int .u8 0, .int .u8 0, .int .u8 0, .int .u8 0, .int .u8 0, .int .u8 0, .int .u8 0, .int .u8 0, .int .u8 0, .int .u8 0]⟩),
  (129, ⟨.other, 1, 8, [.nilf]⟩),
  (130, ⟨.int .i64, 1, 8, [.int .i64 0]⟩),
  (132, ⟨.other, 1, 8, [.nilf]⟩),
  (133, ⟨.other, 1, 8, [.nilf]⟩),
  (134, ⟨.other, 1, 8, [.nilf]⟩),
  (135, ⟨.other, 1, 8, [.nilf]⟩),
  (136, ⟨.int .u64, 1, 8, [.int .u64 0]⟩),
  (137, ⟨.other, 1, 8, [.nilf]⟩),
  (138, ⟨.other, 1, 8, [.nilf]⟩),
  (139, ⟨.other, 1, 8, [.nilf]⟩),
  (141, ⟨.other, 1, 8, [.nilf]⟩),
  (142, ⟨.arr 32 5, 32, 32, [.int .u8 0, .int .u8 0, .int .u8 0, .int .u8 0, .int .u8 0, .int .u8 0, .int .u8 0, .int .u8 0, .int .u8 0, .int .u8 0, .int .u8 0, .int .u8 0, .int .u8 0, .int .u8 0, .int .u8 0, .int .u8 0, .int .u8 0, .int .u8 0, .int .u8 0, .int .u8 0, .int .u8 0, .int .u8 0, .int .u8 0, .int .u8 0, .int .u8 0, .int .u8 0, .int .u8 0, .int .u8 0, .int .u8 0, .int .u8 0, .int .u8 0, .int .u8 0]⟩),
  (143, ⟨.arr 64 5, 64, 64, [.int .u8 0, .int .u8 0, .int .u8 0, .int .u8 0, .int .u8 0, .int .u8 0, .int .u8 0, .int .u8 0, .int .u8 0, .int .u8 0, .int .u8 0, .int .u8 0, .int .u8 0, .int .u8 0, .int .u8 0, .int .u8 0, .int .u8 0, .int .u8 0, .int .u8 0, .int .u8 0, .int .u8 0, .int .u8 0, .int .u8 0, .int .u8 0, .int .u8 0, .int .u8 0, .int .u8 0, .int .u8 0, .int .u8 0, .int .u8 0, .int .u8 0, .int .u8 0, .int .u8 0, .int .u8 0, .int .u8 0, .int .u8 0, .int .u8 0, .int .u8 0, .int .u8 0, .int .u8 0, .int .u8 0, .int .u8 0, .int .u8 0, .int .u8 0, .int .u8 0, .int .u8 0, .int .u8 0, .int .u8 0, .int .u8 0, .int .u8 0, .int .u8 0, .int .u8 0, .int .u8 0, .int .u8 0, .int .u8 0, .int .u8 0, .int .u8 0, .int .u8 0, .int .u8 0, .int .u8 0, .int .u8 0, .int .u8 0, .int .u8 0, .int .u8 0]⟩),
  (145, ⟨.other, 1, 8, [.nilf]⟩),
  (146, ⟨.strct [⟨0, 1, false⟩, ⟨1, 1, false⟩, ⟨2, 1, false⟩, ⟨3, 1, false⟩], 4, 40, [.nilp, .nilp, .nilp, .str ⟨#[]⟩]⟩),
  (147, ⟨.strct [⟨0, 1, false⟩, ⟨1, 1, false⟩, ⟨2, 1, false⟩, ⟨3, 1, false⟩], 4, 40, [.nilp, .nilp, .nilp, .str ⟨#[]⟩]⟩),
  (151, ⟨.other, 1, 8, [.nilf]⟩),
  (152, ⟨.int .u8, 1, 1, [.int .u8 0]⟩),
  (153, ⟨.int .u8, 1, 1, [.int .u8 0]⟩),
  (154, ⟨.other, 1, 8, [.nilf]⟩),
  (155, ⟨.int .i32, 1, 4, [.int .i32 0]⟩),
  (156, ⟨.int .i32, 1, 4, [.int .i32 0]⟩),
  (157, ⟨.strct [⟨0, 1, false⟩, ⟨1, 1, false⟩, ⟨2, 1, false⟩, ⟨3, 1, false⟩, ⟨4, 1, false⟩, ⟨5, 1, false⟩, ⟨6, 1, false⟩, ⟨7, 1, false⟩, ⟨8, 1, false⟩, ⟨9, 1, false⟩, ⟨10, 1, false⟩], 11, 48, [.int .u64 0, .int .u64 0, .int .u32 0, .int .u8 0, .int .u8 0, .int .u8 0, .int .u8 0, .nilf, .nilp, .int .i32 0, .int .i32 0]⟩),
  (158, ⟨.strct [⟨0, 1, false⟩, ⟨1, 1, false⟩, ⟨2, 1, false⟩, ⟨3, 1, false⟩, ⟨4, 1, false⟩, ⟨5, 1, false⟩, ⟨6, 1, false⟩, ⟨7, 1, false⟩, ⟨8, 1, false⟩, ⟨9, 1, false⟩, ⟨10, 1, false⟩], 11, 48, [.int .u64 0, .int .u64 0, .int .u32 0, .int .u8 0, .int .u8 0, .int .u8 0, .int .u8 0, .nilf, .nilp, .int .i32 0, .int .i32 0]⟩),
  (159, ⟨.other, 1, 8, [.nilf]⟩)]
theorem tyOk {E : Env} (h : E.tab = tab) : TyOk Tryd.prog E := by
  unfold TyOk
  rw [h]
  refine ?_
  unfold tab
  refine List.forall_mem_cons.2 ⟨⟨by kernel_rfl, by kernel_rfl, by kernel_rfl, by decide, by decide, by kernel_rfl⟩, ?_⟩
  refine List.forall_mem_cons.2 ⟨⟨by kernel_rfl, by kernel_rfl, by kernel_rfl, by decide, by decide, by kernel_rfl⟩, ?_⟩
  refine List.forall_mem_cons.2 ⟨⟨by kernel_rfl, by kernel_rfl, by kernel_rfl, by decide, by decide, by kernel_rfl⟩, ?_⟩
  refine List.forall_mem_cons.2 ⟨⟨by kernel_rfl, by kernel_rfl, by kernel_rfl, by decide, by decide, by kernel_rfl⟩, ?_⟩
  refine List.forall_mem_cons.2 ⟨⟨by kernel_rfl, by kernel_rfl, by kernel_rfl, by decide, by decide, by kernel_rfl⟩, ?_⟩
  refine List.forall_mem_cons.2 ⟨⟨by kernel_rfl, by kernel_rfl, by kernel_rfl, by decide, by decide, by kernel_rfl⟩, ?_⟩
  refine List.forall_mem_cons.2 ⟨⟨by kernel_rfl, by kernel_rfl, by kernel_rfl, by decide, by decide, by kernel_rfl⟩, ?_⟩
  refine List.forall_mem_cons.2 ⟨⟨by kernel_rfl, by kernel_rfl, by kernel_rfl, by decide, by decide, by kernel_rfl⟩, ?_⟩
  refine List.forall_mem_cons.2 ⟨⟨by kernel_rfl, by kernel_rfl, by kernel_rfl, by decide, by decide, by kernel_rfl⟩, ?_⟩
  refine List.forall_mem_cons.2 ⟨⟨by kernel_rfl, by kernel_rfl, by kernel_rfl, by decide, by decide, by kernel_rfl⟩, ?_⟩
  refine List.forall_mem_cons.2 ⟨⟨by kernel_rfl, by kernel_rfl, by kernel_rfl, by decide, by decide, by kernel_rfl⟩, ?_⟩
  refine List.forall_mem_cons.2 ⟨⟨by kernel_rfl, by kernel_rfl, by kernel_rfl, by decide, by decide, by kernel_rfl⟩, ?_⟩
  refine List.forall_mem_cons.2 ⟨⟨by kernel_rfl, by kernel_rfl, by kernel_rfl, by decide, by decide, by kernel_rfl⟩, ?_⟩
  refine List.forall_mem_cons.2 ⟨⟨by kernel_rfl, by kernel_rfl, by kernel_rfl, by decide, by decide, by kernel_rfl⟩, ?_⟩
  refine List.forall_mem_cons.2 ⟨⟨by kernel_rfl, by kernel_rfl, by kernel_rfl, by decide, by decide, by kernel_rfl⟩, ?_⟩
  refine List.forall_mem_cons.2 ⟨⟨by kernel_rfl, by kernel_rfl, by kernel_rfl, by decide, by decide, by kernel_rfl⟩, ?_⟩
  refine List.forall_mem_cons.2 ⟨⟨by kernel_rfl, by kernel_rfl, by kernel_rfl, by decide, by decide, by kernel_rfl⟩, ?_⟩
  refine List.forall_mem_cons.2 ⟨⟨by kernel_rfl, by kernel_rfl, by kernel_rfl, by decide, by decide, by kernel_rfl⟩, ?_⟩
  refine List.forall_mem_cons.2 ⟨⟨by kernel_rfl, by kernel_rfl, by kernel_rfl, by decide, by decide, by kernel_rfl⟩, ?_⟩
  refine List.forall_mem_cons.2 ⟨⟨by kernel_rfl, by kernel_rfl, by kernel_rfl, by decide, by decide, by kernel_rfl⟩, ?_⟩
  refine List.forall_mem_cons.2 ⟨⟨by kernel_rfl, by kernel_rfl, by kernel_rfl, by decide, by decide, by kernel_rfl⟩, ?_⟩
  refine List.forall_mem_cons.2 ⟨⟨by kernel_rfl, by kernel_rfl, by kernel_rfl, by decide, by decide, by kernel_rfl⟩, ?_⟩
  refine List.forall_mem_cons.2 ⟨⟨by kernel_rfl, by kernel_rfl, by kernel_rfl, by decide, by decide, by kernel_rfl⟩, ?_⟩
  refine List.forall_mem_cons.2 ⟨⟨by kernel_rfl, by kernel_rfl, by kernel_rfl, by decide, by decide, by kernel_rfl⟩, ?_⟩
  refine List.forall_mem_cons.2 ⟨⟨by kernel_rfl, by kernel_rfl, by kernel_rfl, by decide, by decide, by kernel_rfl⟩, ?_⟩
  refine List.forall_mem_cons.2 ⟨⟨by kernel_rfl, by kernel_rfl, by kernel_rfl, by decide, by decide, by kernel_rfl⟩, ?_⟩
  refine List.forall_mem_cons.2 ⟨⟨by kernel_rfl, by kernel_rfl, by kernel_rfl, by decide, by decide, by kernel_rfl⟩, ?_⟩
  refine List.forall_mem_cons.2 ⟨⟨by kernel_rfl, by kernel_rfl, by kernel_rfl, by decide, by decide, by kernel_rfl⟩, ?_⟩
  refine List.forall_mem_cons.2 ⟨⟨by kernel_rfl, by kernel_rfl, by kernel_rfl, by decide, by decide, by kernel_rfl⟩, ?_⟩
  refine List.forall_mem_cons.2 ⟨⟨by kernel_rfl, by kernel_rfl, by kernel_rfl, by decide, by decide, by kernel_rfl⟩, ?_⟩
  refine List.forall_mem_cons.2 ⟨⟨by kernel_rfl, by kernel_rfl, by kernel_rfl, by decide, by decide, by kernel_rfl⟩, ?_⟩
  refine List.forall_mem_cons.2 ⟨⟨by kernel_rfl, by kernel_rfl, by kernel_rfl, by decide, by decide, by kernel_rfl⟩, ?_⟩
  refine List.forall_mem_cons.2 ⟨⟨by kernel_rfl, by kernel_rfl, by kernel_rfl, by decide, by decide, by kernel_rfl⟩, ?_⟩
  refine List.forall_mem_cons.2 ⟨⟨by kernel_rfl, by kernel_rfl, by kernel_rfl, by decide, by decide, by kernel_rfl⟩, ?_⟩
  refine List.forall_mem_cons.2 ⟨⟨by kernel_rfl, by kernel_rfl, by kernel_rfl, by decide, by decide, by kernel_rfl⟩, ?_⟩
  refine List.forall_mem_cons.2 ⟨⟨by kernel_rfl, by kernel_rfl, by kernel_rfl, by decide, by decide, by kernel_rfl⟩, ?_⟩
  refine List.forall_mem_cons.2 ⟨⟨by kernel_rfl, by kernel_rfl, by kernel_rfl, by decide, by decide, by kernel_rfl⟩, ?_⟩
  refine List.forall_mem_cons.2 ⟨⟨by kernel_rfl, by kernel_rfl, by kernel_rfl, by decide, by decide, by kernel_rfl⟩, ?_⟩
  refine List.forall_mem_cons.2 ⟨⟨by kernel_rfl, by kernel_rfl, by kernel_rfl, by decide, by decide, by kernel_rfl⟩, ?_⟩
  refine List.forall_mem_cons.2 ⟨⟨by kernel_rfl, by kernel_rfl, by kernel_rfl, by decide, by decide, by kernel_rfl⟩, ?_⟩
  refine List.forall_mem_cons.2 ⟨⟨by kernel_rfl, by kernel_rfl, by kernel_rfl, by decide, by decide, by kernel_rfl⟩, ?_⟩
  refine List.forall_mem_cons.2 ⟨⟨by kernel_rfl, by kernel_rfl, by kernel_rfl, by decide, by decide, by kernel_rfl⟩, ?_⟩
  refine List.forall_mem_cons.2 ⟨⟨by kernel_rfl, by kernel_rfl, by kernel_rfl, by decide, by decide, by kernel_rfl⟩, ?_⟩
  refine List.forall_mem_cons.2 ⟨⟨by kernel_rfl, by kernel_rfl, by kernel_rfl, by decide, by decide, by kernel_rfl⟩, ?_⟩
  refine List.forall_mem_cons.2 ⟨⟨by kernel_rfl, by kernel_rfl, by kernel_rfl, by decide, by decide, by kernel_rfl⟩, ?_⟩
  refine List.forall_mem_cons.2 ⟨⟨by kernel_rfl, by kernel_rfl, by kernel_rfl, by decide, by decide, by kernel_rfl⟩, ?_⟩
  refine List.forall_mem_cons.2 ⟨⟨by kernel_rfl, by kernel_rfl, by kernel_rfl, by decide, by decide, by kernel_rfl⟩, ?_⟩
  refine List.forall_mem_cons.2 ⟨⟨by kernel_rfl, by kernel_rfl, by kernel_rfl, by decide, by decide, by kernel_rfl⟩, ?_⟩
  refine List.forall_mem_cons.2 ⟨⟨by kernel_rfl, by kernel_rfl, by kernel_rfl, by decide, by decide, by kernel_rfl⟩, ?_⟩
  refine List.forall_mem_cons.2 ⟨⟨by kernel_rfl, by kernel_rfl, by kernel_rfl, by decide, by decide, by kernel_rfl⟩, ?_⟩
  refine List.forall_mem_cons.2 ⟨⟨by kernel_rfl, by kernel_rfl, by kernel_rfl, by decide, by decide, by kernel_rfl⟩, ?_⟩
  refine List.forall_mem_cons.2 ⟨⟨by kernel_rfl, by kernel_rfl, by kernel_rfl, by decide, by decide, by kernel_rfl⟩, ?_⟩
  refine List.forall_mem_cons.2 ⟨⟨by kernel_rfl, by kernel_rfl, by kernel_rfl, by decide, by decide, by kernel_rfl⟩, ?_⟩
  refine List.forall_mem_cons.2 ⟨⟨by kernel_rfl, by kernel_rfl, by kernel_rfl, by decide, by decide, by kernel_rfl⟩, ?_⟩
  refine List.forall_mem_cons.2 ⟨⟨by kernel_rfl, by kernel_rfl, by kernel_rfl, by decide, by decide, by kernel_rfl⟩, ?_⟩
  refine List.forall_mem_cons.2 ⟨⟨by kernel_rfl, by kernel_rfl, by kernel_rfl, by decide, by decide, by kernel_rfl⟩, ?_⟩
  refine List.forall_mem_cons.2 ⟨⟨by kernel_rfl, by kernel_rfl, by kernel_rfl, by decide, by decide, by kernel_rfl⟩, ?_⟩
  refine List.forall_mem_cons.2 ⟨⟨by kernel_rfl, by kernel_rfl, by kernel_rfl, by decide, by decide, by kernel_rfl⟩, ?_⟩
  refine List.forall_mem_cons.2 ⟨⟨by kernel_rfl, by kernel_rfl, by kernel_rfl, by decide, by decide, by kernel_rfl⟩, ?_⟩
  refine List.forall_mem_cons.2 ⟨⟨by kernel_rfl, by kernel_rfl, by kernel_rfl, by decide, by decide, by kernel_rfl⟩, ?_⟩
  refine List.forall_mem_cons.2 ⟨⟨by kernel_rfl, by kernel_rfl, by kernel_rfl, by decide, by decide, by kernel_rfl⟩, ?_⟩
  refine List.forall_mem_cons.2 ⟨⟨by kernel_rfl, by kernel_rfl, by kernel_rfl, by decide, by decide, by kernel_rfl⟩, ?_⟩
  refine List.forall_mem_cons.2 ⟨⟨by kernel_rfl, by kernel_rfl, by kernel_rfl, by decide, by decide, by kernel_rfl⟩, ?_⟩
  refine List.forall_mem_cons.2 ⟨⟨by kernel_rfl, by kernel_rfl, by kernel_rfl, by decide, by decide, by kernel_rfl⟩, ?_⟩
  refine List.forall_mem_cons.2 ⟨⟨by kernel_rfl, by kernel_rfl, by kernel_rfl, by decide, by decide, by kernel_rfl⟩, ?_⟩
  refine List.forall_mem_cons.2 ⟨⟨by kernel_rfl, by kernel_rfl, by kernel_rfl, by decide, by decide, by kernel_rfl⟩, ?_⟩
  refine List.forall_mem_cons.2 ⟨⟨by kernel_rfl, by kernel_rfl, by kernel_rfl, by decide, by decide, by kernel_rfl⟩, ?_⟩
  refine List.forall_mem_cons.2 ⟨⟨by kernel_rfl, by kernel_rfl, by kernel_rfl, by decide, by decide, by kernel_rfl⟩, ?_⟩
  refine List.forall_mem_cons.2 ⟨⟨by kernel_rfl, by kernel_rfl, by kernel_rfl, by decide, by decide, by kernel_rfl⟩, ?_⟩
  refine List.forall_mem_cons.2 ⟨⟨by kernel_rfl, by kernel_rfl, by kernel_rfl, by decide, by decide, by kernel_rfl⟩, ?_⟩
  refine List.forall_mem_cons.2 ⟨⟨by kernel_rfl, by kernel_rfl, by kernel_rfl, by decide, by decide, by kernel_rfl⟩, ?_⟩
  refine List.forall_mem_cons.2 ⟨⟨by kernel_rfl, by kernel_rfl, by kernel_rfl, by decide, by decide, by kernel_rfl⟩, ?_⟩
  refine List.forall_mem_cons.2 ⟨⟨by kernel_rfl, by kernel_rfl, by kernel_rfl, by decide, by decide, by kernel_rfl⟩, ?_⟩
  refine List.forall_mem_cons.2 ⟨⟨by kernel_rfl, by kernel_rfl, by kernel_rfl, by decide, by decide, by kernel_rfl⟩, ?_⟩
  refine List.forall_mem_cons.2 ⟨⟨by kernel_rfl, by kernel_rfl, by kernel_rfl, by decide, by decide, by kernel_rfl⟩, ?_⟩
  refine List.forall_mem_cons.2 ⟨⟨by kernel_rfl, by kernel_rfl, by kernel_rfl, by decide, by decide, by kernel_rfl⟩, ?_⟩
  refine List.forall_mem_cons.2 ⟨⟨by kernel_rfl, by kernel_rfl, by kernel_rfl, by decide, by decide, by kernel_rfl⟩, ?_⟩
  refine List.forall_mem_cons.2 ⟨⟨by kernel_rfl, by kernel_rfl, by kernel_rfl, by decide, by decide, by kernel_rfl⟩, ?_⟩
  refine List.forall_mem_cons.2 ⟨⟨by kernel_rfl, by kernel_rfl, by kernel_rfl, by decide, by decide, by kernel_rfl⟩, ?_⟩
  refine List.forall_mem_cons.2 ⟨⟨by kernel_rfl, by kernel_rfl, by kernel_rfl, by decide, by decide, by kernel_rfl⟩, ?_⟩
  refine List.forall_mem_cons.2 ⟨⟨by kernel_rfl, by kernel_rfl, by kernel_rfl, by decide, by decide, by kernel_rfl⟩, ?_⟩
  refine List.forall_mem_cons.2 ⟨⟨by kernel_rfl, by kernel_rfl, by kernel_rfl, by decide, by decide, by kernel_rfl⟩, ?_⟩
  refine List.forall_mem_cons.2 ⟨⟨by kernel_rfl, by kernel_rfl, by kernel_rfl, by decide, by decide, by kernel_rfl⟩, ?_⟩
  refine List.forall_mem_cons.2 ⟨⟨by kernel_rfl, by kernel_rfl, by kernel_rfl, by decide, by decide, by kernel_rfl⟩, ?_⟩
  refine List.forall_mem_cons.2 ⟨⟨by kernel_rfl, by kernel_rfl, by kernel_rfl, by decide, by decide, by kernel_rfl⟩, ?_⟩
  refine List.forall_mem_cons.2 ⟨⟨by kernel_rfl, by kernel_rfl, by kernel_rfl, by decide, by decide, by kernel_rfl⟩, ?_⟩
  refine List.forall_mem_cons.2 ⟨⟨by kernel_rfl, by kernel_rfl, by kernel_rfl, by decide, by decide, by kernel_rfl⟩, ?_⟩
  refine List.forall_mem_cons.2 ⟨⟨by kernel_rfl, by kernel_rfl, by kernel_rfl, by decide, by decide, by kernel_rfl⟩, ?_⟩
  refine List.forall_mem_cons.2 ⟨⟨by kernel_rfl, by kernel_rfl, by kernel_rfl, by decide, by decide, by kernel_rfl⟩, ?_⟩
  refine List.forall_mem_cons.2 ⟨⟨by kernel_rfl, by kernel_rfl, by kernel_rfl, by decide, by decide, by kernel_rfl⟩, ?_⟩
  refine List.forall_mem_cons.2 ⟨⟨by kernel_rfl, by kernel_rfl, by kernel_rfl, by decide, by decide, by kernel_rfl⟩, ?_⟩
  refine List.forall_mem_cons.2 ⟨⟨by kernel_rfl, by kernel_rfl, by kernel_rfl, by decide, by decide, by kernel_rfl⟩, ?_⟩
  refine List.forall_mem_cons.2 ⟨⟨by kernel_rfl, by kernel_rfl, by kernel_rfl, by decide, by decide, by kernel_rfl⟩, ?_⟩
  refine List.forall_mem_cons.2 ⟨⟨by kernel_rfl, by kernel_rfl, by kernel_rfl, by decide, by decide, by kernel_rfl⟩, ?_⟩
  refine List.forall_mem_cons.2 ⟨⟨by kernel_rfl, by kernel_rfl, by kernel_rfl, by decide, by decide, by kernel_rfl⟩, ?_⟩
  refine List.forall_mem_cons.2 ⟨⟨by kernel_rfl, by kernel_rfl, by kernel_rfl, by decide, by decide, by kernel_rfl⟩, ?_⟩
  refine List.forall_mem_cons.2 ⟨⟨by kernel_rfl, by kernel_rfl, by kernel_rfl, by decide, by decide, by kernel_rfl⟩, ?_⟩
  refine List.forall_mem_cons.2 ⟨⟨by kernel_rfl, by kernel_rfl, by kernel_rfl, by decide, by decide, by kernel_rfl⟩, ?_⟩
  refine List.forall_mem_cons.2 ⟨⟨by kernel_rfl, by kernel_rfl, by kernel_rfl, by decide, by decide, by kernel_rfl⟩, ?_⟩
  refine List.forall_mem_cons.2 ⟨⟨by kernel_rfl, by kernel_rfl, by kernel_rfl, by decide, by decide, by kernel_rfl⟩, ?_⟩
  refine List.forall_mem_cons.2 ⟨⟨by kernel_rfl, by kernel_rfl, by kernel_rfl, by decide, by decide, by kernel_rfl⟩, ?_⟩
  refine List.forall_mem_cons.2 ⟨⟨by kernel_rfl, by kernel_rfl, by kernel_rfl, by decide, by decide, by kernel_rfl⟩, ?_⟩
  refine List.forall_mem_cons.2 ⟨⟨by kernel_rfl, by kernel_rfl, by kernel_rfl, by decide, by decide, by kernel_rfl⟩, ?_⟩
  refine List.forall_mem_cons.2 ⟨⟨by kernel_rfl, by kernel_rfl, by kernel_rfl, by decide, by decide, by kernel_rfl⟩, ?_⟩
  refine List.forall_mem_cons.2 ⟨⟨by kernel_rfl, by kernel_rfl, by kernel_rfl, by decide, by decide, by kernel_rfl⟩, ?_⟩
  refine List.forall_mem_cons.2 ⟨⟨by kernel_rfl, by kernel_rfl, by kernel_rfl, by decide, by decide, by kernel_rfl⟩, ?_⟩
  refine List.forall_mem_cons.2 ⟨⟨by kernel_rfl, by kernel_rfl, by kernel_rfl, by decide, by decide, by kernel_rfl⟩, ?_⟩
  refine List.forall_mem_cons.2 ⟨⟨by kernel_rfl, by kernel_rfl, by kernel_rfl, by decide, by decide, by kernel_rfl⟩, ?_⟩
  refine List.forall_mem_cons.2 ⟨⟨by kernel_rfl, by kernel_rfl, by kernel_rfl, by decide, by decide, by kernel_rfl⟩, ?_⟩
  refine List.forall_mem_cons.2 ⟨⟨by kernel_rfl, by kernel_rfl, by kernel_rfl, by decide, by decide, by kernel_rfl⟩, ?_⟩
  refine List.forall_mem_cons.2 ⟨⟨by kernel_rfl, by kernel_rfl, by kernel_rfl, by decide, by decide, by kernel_rfl⟩, ?_⟩
  refine List.forall_mem_cons.2 ⟨⟨by kernel_rfl, by kernel_rfl, by kernel_rfl, by decide, by decide, by kernel_rfl⟩, ?_⟩
  refine List.forall_mem_cons.2 ⟨⟨by kernel_rfl, by kernel_rfl, by kernel_rfl, by decide, by decide, by kernel_rfl⟩, ?_⟩
  refine List.forall_mem_cons.2 ⟨⟨by kernel_rfl, by kernel_rfl, by kernel_rfl, by decide, by decide, by kernel_rfl⟩, ?_⟩
  refine List.forall_mem_cons.2 ⟨⟨by kernel_rfl, by kernel_rfl, by kernel_rfl, by decide, by decide, by kernel_rfl⟩, ?_⟩
  refine List.forall_mem_cons.2 ⟨⟨by kernel_rfl, by kernel_rfl, by kernel_rfl, by decide, by decide, by kernel_rfl⟩, ?_⟩
  refine List.forall_mem_cons.2 ⟨⟨by kernel_rfl, by kernel_rfl, by kernel_rfl, by decide, by decide, by kernel_rfl⟩, ?_⟩
  refine List.forall_mem_cons.2 ⟨⟨by kernel_rfl, by kernel_rfl, by kernel_rfl, by decide, by decide, by kernel_rfl⟩, ?_⟩
  refine List.forall_mem_cons.2 ⟨⟨by kernel_rfl, by kernel_rfl, by kernel_rfl, by decide, by decide, by kernel_rfl⟩, ?_⟩
  refine List.forall_mem_cons.2 ⟨⟨by kernel_rfl, by kernel_rfl, by kernel_rfl, by decide, by decide, by kernel_rfl⟩, ?_⟩
  refine List.forall_mem_cons.2 ⟨⟨by kernel_rfl, by kernel_rfl, by kernel_rfl, by decide, by decide, by kernel_rfl⟩, ?_⟩
  refine List.forall_mem_cons.2 ⟨⟨by kernel_rfl, by kernel_rfl, by kernel_rfl, by decide, by decide, by kernel_rfl⟩, ?_⟩
  refine List.forall_mem_cons.2 ⟨⟨by kernel_rfl, by kernel_rfl, by kernel_rfl, by decide, by decide, by kernel_rfl⟩, ?_⟩
  refine List.forall_mem_cons.2 ⟨⟨by kernel_rfl, by kernel_rfl, by kernel_rfl, by decide, by decide, by kernel_rfl⟩, ?_⟩
  refine List.forall_mem_cons.2 ⟨⟨by kernel_rfl, by kernel_rfl, by kernel_rfl, by decide, by decide, by kernel_rfl⟩, ?_⟩
  refine List.forall_mem_cons.2 ⟨⟨by kernel_rfl, by kernel_rfl, by kernel_rfl, by decide, by decide, by kernel_rfl⟩, ?_⟩
  refine List.forall_mem_cons.2 ⟨⟨by kernel_rfl, by kernel_rfl, by kernel_rfl, by decide, by decide, by kernel_rfl⟩, ?_⟩
  refine List.forall_mem_cons.2 ⟨⟨by kernel_rfl, by kernel_rfl, by kernel_rfl, by decide, by decide, by kernel_rfl⟩, ?_⟩
  refine List.forall_mem_cons.2 ⟨⟨by kernel_rfl, by kernel_rfl, by kernel_rfl, by decide, by decide, by kernel_rfl⟩, ?_⟩
  refine List.forall_mem_cons.2 ⟨⟨by kernel_rfl, by kernel_rfl, by kernel_rfl, by decide, by decide, by kernel_rfl⟩, ?_⟩
  refine List.forall_mem_cons.2 ⟨⟨by kernel_rfl, by kernel_rfl, by kernel_rfl, by decide, by decide, by kernel_rfl⟩, ?_⟩
  refine List.forall_mem_cons.2 ⟨⟨by kernel_rfl, by kernel_rfl, by kernel_rfl, by decide, by decide, by kernel_rfl⟩, ?_⟩
  exact fun p hp => absurd hp (by simp)
theorem mixed : Tryd.prog.follows .mixedOrders = true := by kernel_rfl
instance : Globs := { tab := [(0, .u64, [1, 10, 100, 1000, 10000, 100000, 1000000, 10000000, 100000000, 1000000000, 10000000000, 100000000000, 1000000000000, 10000000000000, 100000000000000, 1000000000000000, 10000000000000000, 100000000000000000, 1000000000000000000, 10000000000000000000])], nst := [24] }
instance : Dm := ⟨True⟩
theorem laid : laidOutB Tryd.prog = true := by kernel_rfl
end Go.Sym
