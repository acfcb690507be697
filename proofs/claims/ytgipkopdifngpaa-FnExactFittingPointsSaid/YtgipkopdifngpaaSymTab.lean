/- The seat's table of types, and that it says of the loaded program what is so. -/
import Derived.Test.YtgipkopdifngpaaSymW
import Derived.Test.YtgipkopdifngpaaProg
import Derived.KernelRfl
namespace Go.Sym
open Go.Proofs
set_option linter.unusedVariables false
set_option linter.unusedSimpArgs false
set_option maxRecDepth 100000
def tab : List (TypeId × TI) := [
  (1, ⟨.other, 1, 8, [.nilf]⟩),
  (2, ⟨.int .i64, 1, 8, [.int .i64 0]⟩),
  (3, ⟨.int .i64, 1, 8, [.int .i64 0]⟩),
  (4, ⟨.bool, 1, 1, [.bool false]⟩),
  (5, ⟨.int .u8, 1, 1, [.int .u8 0]⟩),
  (6, ⟨.int .u8, 1, 1, [.int .u8 0]⟩),
  (7, ⟨.strct [⟨0, 1, false⟩, ⟨1, 1, false⟩, ⟨2, 1, false⟩, ⟨3, 1, false⟩], 4, 24, [.int .i64 0, .int .i64 0, .bool false, .int .u8 0]⟩),
  (8, ⟨.strct [⟨0, 1, false⟩, ⟨1, 1, false⟩, ⟨2, 1, false⟩, ⟨3, 1, false⟩], 4, 24, [.int .i64 0, .int .i64 0, .bool false, .int .u8 0]⟩),
  (9, ⟨.str, 1, 16, [.str ⟨#[]⟩]⟩),
  (10, ⟨.str, 1, 16, [.str ⟨#[]⟩]⟩),
  (11, ⟨.str, 1, 16, [.str ⟨#[]⟩]⟩),
  (12, ⟨.int .u64, 1, 8, [.int .u64 0]⟩),
  (13, ⟨.strct [⟨0, 1, false⟩, ⟨1, 1, false⟩], 2, 24, [.str ⟨#[]⟩, .int .u64 0]⟩),
  (14, ⟨.strct [⟨0, 1, false⟩, ⟨1, 1, false⟩], 2, 24, [.str ⟨#[]⟩, .int .u64 0]⟩),
  (18, ⟨.strct [⟨0, 1, false⟩], 1, 8, [.nilp]⟩),
  (19, ⟨.strct [⟨0, 1, false⟩], 1, 8, [.nilp]⟩),
  (21, ⟨.int .i32, 1, 4, [.int .i32 0]⟩),
  (22, ⟨.other, 1, 8, [.nilf]⟩),
  (23, ⟨.other, 1, 8, [.nilf]⟩),
  (24, ⟨.slc 3 (.int .i64), 1, 24, [.zc 3 (.int .i64)]⟩),
  (25, ⟨.strct [⟨0, 1, false⟩, ⟨1, 1, false⟩], 2, 48, [.zc 3 (.int .i64), .zc 3 (.int .i64)]⟩),
  (26, ⟨.strct [⟨0, 1, false⟩, ⟨1, 1, false⟩], 2, 48, [.zc 3 (.int .i64), .zc 3 (.int .i64)]⟩),
  (27, ⟨.other, 1, 8, [.nilf]⟩),
  (28, ⟨.other, 1, 8, [.nilf]⟩),
  (29, ⟨.strct [⟨0, 1, false⟩, ⟨1, 1, false⟩], 2, 48, [.zc 3 (.int .i64), .zc 3 (.int .i64)]⟩),
  (30, ⟨.other, 1, 8, [.nilf]⟩),
  (31, ⟨.other, 1, 8, [.nilf]⟩),
  (32, ⟨.slc 24 (.lst (.int .i64)), 1, 24, [.zc 24 (.lst (.int .i64))]⟩),
  (33, ⟨.other, 1, 8, [.nilf]⟩),
  (34, ⟨.other, 1, 8, [.nilf]⟩),
  (35, ⟨.other, 1, 8, [.nilf]⟩),
  (36, ⟨.other, 1, 8, [.nilf]⟩),
  (37, ⟨.strct [⟨0, 1, false⟩, ⟨1, 1, false⟩], 2, 32, [.int .i64 0, .zc 3 (.int .i64)]⟩),
  (38, ⟨.strct [⟨0, 1, false⟩, ⟨1, 1, false⟩], 2, 32, [.int .i64 0, .zc 3 (.int .i64)]⟩),
  (39, ⟨.strct [⟨0, 2, true⟩, ⟨2, 2, true⟩], 4, 64, [.int .i64 0, .zc 3 (.int .i64), .int .i64 0, .zc 3 (.int .i64)]⟩),
  (40, ⟨.strct [⟨0, 2, true⟩, ⟨2, 2, true⟩], 4, 64, [.int .i64 0, .zc 3 (.int .i64), .int .i64 0, .zc 3 (.int .i64)]⟩),
  (41, ⟨.other, 1, 8, [.nilf]⟩),
  (42, ⟨.other, 1, 8, [.nilf]⟩),
  (43, ⟨.strct [⟨0, 1, false⟩, ⟨1, 1, false⟩], 2, 32, [.int .i64 0, .zc 3 (.int .i64)]⟩),
  (44, ⟨.strct [⟨0, 2, true⟩, ⟨2, 2, true⟩], 4, 64, [.int .i64 0, .zc 3 (.int .i64), .int .i64 0, .zc 3 (.int .i64)]⟩),
  (45, ⟨.strct [⟨0, 2, true⟩, ⟨2, 2, true⟩], 4, 64, [.int .i64 0, .zc 3 (.int .i64), .int .i64 0, .zc 3 (.int .i64)]⟩),
  (46, ⟨.other, 1, 8, [.nilf]⟩),
  (47, ⟨.other, 1, 8, [.nilf]⟩),
  (48, ⟨.slc 66 (.pair (.int .i64) (.int .i64)), 1, 24, [.zc 66 (.pair (.int .i64) (.int .i64))]⟩),
  (49, ⟨.other, 1, 8, [.nilf]⟩),
  (50, ⟨.other, 1, 8, [.nilf]⟩),
  (51, ⟨.slc 68 (.pair (.int .i64) (.int .i64)), 1, 24, [.zc 68 (.pair (.int .i64) (.int .i64))]⟩),
  (52, ⟨.other, 1, 8, [.nilf]⟩),
  (53, ⟨.other, 1, 8, [.nilf]⟩),
  (54, ⟨.other, 1, 8, [.nilf]⟩),
  (55, ⟨.other, 1, 8, [.nilf]⟩),
  (56, ⟨.other, 1, 8, [.nilf]⟩),
  (57, ⟨.other, 1, 8, [.nilf]⟩),
  (58, ⟨.other, 1, 8, [.nilf]⟩),
  (60, ⟨.other, 1, 8, [.nilf]⟩),
  (61, ⟨.other, 1, 8, [.nilf]⟩),
  (62, ⟨.other, 1, 8, [.nilf]⟩),
  (63, ⟨.other, 1, 8, [.nilf]⟩),
  (64, ⟨.other, 1, 8, [.nilf]⟩),
  (65, ⟨.strct [⟨0, 1, false⟩, ⟨1, 1, false⟩], 2, 16, [.int .i64 0, .int .i64 0]⟩),
  (66, ⟨.strct [⟨0, 1, false⟩, ⟨1, 1, false⟩], 2, 16, [.int .i64 0, .int .i64 0]⟩),
  (67, ⟨.other, 1, 8, [.nilf]⟩),
  (68, ⟨.strct [⟨0, 1, false⟩, ⟨1, 1, false⟩], 2, 16, [.int .i64 0, .int .i64 0]⟩),
  (69, ⟨.other, 1, 8, [.nilf]⟩),
  (70, ⟨.other, 1, 8, [.nilf]⟩),
  (71, ⟨.other, 1, 8, [.nilf]⟩),
  (72, ⟨.other, 1, 8, [.nilf]⟩),
  (73, ⟨.strct [⟨0, 1, false⟩], 1, 24, [.zc 3 (.int .i64)]⟩),
  (74, ⟨.strct [⟨0, 1, false⟩], 1, 24, [.zc 3 (.int .i64)]⟩),
  (75, ⟨.other, 1, 8, [.nilf]⟩),
  (76, ⟨.other, 1, 8, [.nilf]⟩),
  (77, ⟨.strct [⟨0, 1, false⟩], 1, 24, [.zc 3 (.int .i64)]⟩),
  (78, ⟨.other, 1, 8, [.nilf]⟩),
  (79, ⟨.other, 1, 8, [.nilf]⟩),
  (80, ⟨.other, 1, 8, [.nilf]⟩),
  (81, ⟨.other, 1, 8, [.nilf]⟩),
  (82, ⟨.other, 1, 8, [.nilf]⟩),
  (83, ⟨.other, 1, 8, [.nilf]⟩),
  (84, ⟨.other, 1, 8, [.nilf]⟩),
  (85, ⟨.other, 1, 8, [.nilf]⟩),
  (86, ⟨.other, 1, 8, [.nilf]⟩),
  (87, ⟨.slc 9 .str, 1, 24, [.zc 9 .str]⟩),
  (88, ⟨.other, 1, 8, [.nilf]⟩),
  (89, ⟨.other, 1, 8, [.nilf]⟩),
  (90, ⟨.other, 1, 8, [.nilf]⟩),
  (91, ⟨.other, 1, 8, [.nilf]⟩),
  (92, ⟨.other, 1, 8, [.nilf]⟩),
  (93, ⟨.other, 1, 8, [.nilf]⟩),
  (94, ⟨.other, 1, 8, [.nilf]⟩),
  (95, ⟨.other, 1, 8, [.nilf]⟩),
  (96, ⟨.other, 1, 8, [.nilf]⟩),
  (97, ⟨.other, 1, 8, [.nilf]⟩),
  (98, ⟨.int .u64, 1, 8, [.int .u64 0]⟩),
  (99, ⟨.other, 1, 8, [.nilf]⟩),
  (100, ⟨.other, 1, 8, [.nilf]⟩),
  (101, ⟨.other, 1, 8, [.nilf]⟩),
  (102, ⟨.other, 1, 8, [.nilf]⟩),
  (103, ⟨.other, 1, 8, [.nilf]⟩),
  (104, ⟨.other, 1, 8, [.nilf]⟩),
  (105, ⟨.other, 1, 8, [.nilf]⟩),
  (106, ⟨.other, 1, 8, [.nilf]⟩),
  (107, ⟨.other, 1, 8, [.nilf]⟩),
  (108, ⟨.other, 1, 8, [.nilf]⟩),
  (109, ⟨.other, 1, 8, [.nilf]⟩),
  (110, ⟨.other, 1, 8, [.nilf]⟩),
  (111, ⟨.other, 1, 8, [.nilf]⟩),
  (112, ⟨.other, 1, 8, [.nilf]⟩),
  (113, ⟨.int .u32, 1, 4, [.int .u32 0]⟩),
  (114, ⟨.other, 1, 8, [.nilf]⟩),
  (115, ⟨.int .u64, 1, 8, [.int .u64 0]⟩),
  (116, ⟨.other, 1, 8, [.nilf]⟩),
  (117, ⟨.other, 1, 8, [.nilf]⟩),
  (118, ⟨.strct [⟨0, 1, false⟩, ⟨1, 1, false⟩, ⟨2, 1, false⟩, ⟨3, 1, false⟩], 4, 40, [.nilp, .nilp, .nilp, .str ⟨#[]⟩]⟩),
  (119, ⟨.strct [⟨0, 1, false⟩, ⟨1, 1, false⟩, ⟨2, 1, false⟩, ⟨3, 1, false⟩], 4, 40, [.nilp, .nilp, .nilp, .str ⟨#[]⟩]⟩),
  (123, ⟨.other, 1, 8, [.nilf]⟩),
  (124, ⟨.int .u8, 1, 1, [.int .u8 0]⟩),
  (125, ⟨.int .u8, 1, 1, [.int .u8 0]⟩),
  (126, ⟨.other, 1, 8, [.nilf]⟩),
  (128, ⟨.int .i32, 1, 4, [.int .i32 0]⟩),
  (129, ⟨.int .i32, 1, 4, [.int .i32 0]⟩),
  (130, ⟨.strct [⟨0, 1, false⟩, ⟨1, 1, false⟩, ⟨2, 1, false⟩, ⟨3, 1, false⟩, ⟨4, 1, false⟩, ⟨5, 1, false⟩, ⟨6, 1, false⟩, ⟨7, 1, false⟩, ⟨8, 1, false⟩, ⟨9, 1, false⟩, ⟨10, 1, false⟩], 11, 48, [.int .u64 0, .int .u64 0, .int .u32 0, .int .u8 0, .int .u8 0, .int .u8 0, .int .u8 0, .nilf, .nilp, .int .i32 0, .int .i32 0]⟩),
  (131, ⟨.strct [⟨0, 1, false⟩, ⟨1, 1, false⟩, ⟨2, 1, false⟩, ⟨3, 1, false⟩, ⟨4, 1, false⟩, ⟨5, 1, false⟩, ⟨6, 1, false⟩, ⟨7, 1, false⟩, ⟨8, 1, false⟩, ⟨9, 1, false⟩, ⟨10, 1, false⟩], 11, 48, [.int .u64 0, .int .u64 0, .int .u32 0, .int .u8 0, .int .u8 0, .int .u8 0, .int .u8 0, .nilf, .nilp, .int .i32 0, .int .i32 0]⟩),
  (132, ⟨.other, 1, 8, [.nilf]⟩),
  (133, ⟨.other, 1, 8, [.nilf]⟩)]
theorem tyOk {E : Env} (h : E.tab = tab) : TyOk Try.prog E := by
  unfold TyOk
  rw [h]
  refine ?_
  unfold tab
  refine List.forall_mem_cons.2 ⟨⟨by kernel_rfl, by kernel_rfl, by kernel_rfl, by decide, by decide⟩, ?_⟩
  refine List.forall_mem_cons.2 ⟨⟨by kernel_rfl, by kernel_rfl, by kernel_rfl, by decide, by decide⟩, ?_⟩
  refine List.forall_mem_cons.2 ⟨⟨by kernel_rfl, by kernel_rfl, by kernel_rfl, by decide, by decide⟩, ?_⟩
  refine List.forall_mem_cons.2 ⟨⟨by kernel_rfl, by kernel_rfl, by kernel_rfl, by decide, by decide⟩, ?_⟩
  refine List.forall_mem_cons.2 ⟨⟨by kernel_rfl, by kernel_rfl, by kernel_rfl, by decide, by decide⟩, ?_⟩
  refine List.forall_mem_cons.2 ⟨⟨by kernel_rfl, by kernel_rfl, by kernel_rfl, by decide, by decide⟩, ?_⟩
  refine List.forall_mem_cons.2 ⟨⟨by kernel_rfl, by kernel_rfl, by kernel_rfl, by decide, by decide⟩, ?_⟩
  refine List.forall_mem_cons.2 ⟨⟨by kernel_rfl, by kernel_rfl, by kernel_rfl, by decide, by decide⟩, ?_⟩
  refine List.forall_mem_cons.2 ⟨⟨by kernel_rfl, by kernel_rfl, by kernel_rfl, by decide, by decide⟩, ?_⟩
  refine List.forall_mem_cons.2 ⟨⟨by kernel_rfl, by kernel_rfl, by kernel_rfl, by decide, by decide⟩, ?_⟩
  refine List.forall_mem_cons.2 ⟨⟨by kernel_rfl, by kernel_rfl, by kernel_rfl, by decide, by decide⟩, ?_⟩
  refine List.forall_mem_cons.2 ⟨⟨by kernel_rfl, by kernel_rfl, by kernel_rfl, by decide, by decide⟩, ?_⟩
  refine List.forall_mem_cons.2 ⟨⟨by kernel_rfl, by kernel_rfl, by kernel_rfl, by decide, by decide⟩, ?_⟩
  refine List.forall_mem_cons.2 ⟨⟨by kernel_rfl, by kernel_rfl, by kernel_rfl, by decide, by decide⟩, ?_⟩
  refine List.forall_mem_cons.2 ⟨⟨by kernel_rfl, by kernel_rfl, by kernel_rfl, by decide, by decide⟩, ?_⟩
  refine List.forall_mem_cons.2 ⟨⟨by kernel_rfl, by kernel_rfl, by kernel_rfl, by decide, by decide⟩, ?_⟩
  refine List.forall_mem_cons.2 ⟨⟨by kernel_rfl, by kernel_rfl, by kernel_rfl, by decide, by decide⟩, ?_⟩
  refine List.forall_mem_cons.2 ⟨⟨by kernel_rfl, by kernel_rfl, by kernel_rfl, by decide, by decide⟩, ?_⟩
  refine List.forall_mem_cons.2 ⟨⟨by kernel_rfl, by kernel_rfl, by kernel_rfl, by decide, by decide⟩, ?_⟩
  refine List.forall_mem_cons.2 ⟨⟨by kernel_rfl, by kernel_rfl, by kernel_rfl, by decide, by decide⟩, ?_⟩
  refine List.forall_mem_cons.2 ⟨⟨by kernel_rfl, by kernel_rfl, by kernel_rfl, by decide, by decide⟩, ?_⟩
  refine List.forall_mem_cons.2 ⟨⟨by kernel_rfl, by kernel_rfl, by kernel_rfl, by decide, by decide⟩, ?_⟩
  refine List.forall_mem_cons.2 ⟨⟨by kernel_rfl, by kernel_rfl, by kernel_rfl, by decide, by decide⟩, ?_⟩
  refine List.forall_mem_cons.2 ⟨⟨by kernel_rfl, by kernel_rfl, by kernel_rfl, by decide, by decide⟩, ?_⟩
  refine List.forall_mem_cons.2 ⟨⟨by kernel_rfl, by kernel_rfl, by kernel_rfl, by decide, by decide⟩, ?_⟩
  refine List.forall_mem_cons.2 ⟨⟨by kernel_rfl, by kernel_rfl, by kernel_rfl, by decide, by decide⟩, ?_⟩
  refine List.forall_mem_cons.2 ⟨⟨by kernel_rfl, by kernel_rfl, by kernel_rfl, by decide, by decide⟩, ?_⟩
  refine List.forall_mem_cons.2 ⟨⟨by kernel_rfl, by kernel_rfl, by kernel_rfl, by decide, by decide⟩, ?_⟩
  refine List.forall_mem_cons.2 ⟨⟨by kernel_rfl, by kernel_rfl, by kernel_rfl, by decide, by decide⟩, ?_⟩
  refine List.forall_mem_cons.2 ⟨⟨by kernel_rfl, by kernel_rfl, by kernel_rfl, by decide, by decide⟩, ?_⟩
  refine List.forall_mem_cons.2 ⟨⟨by kernel_rfl, by kernel_rfl, by kernel_rfl, by decide, by decide⟩, ?_⟩
  refine List.forall_mem_cons.2 ⟨⟨by kernel_rfl, by kernel_rfl, by kernel_rfl, by decide, by decide⟩, ?_⟩
  refine List.forall_mem_cons.2 ⟨⟨by kernel_rfl, by kernel_rfl, by kernel_rfl, by decide, by decide⟩, ?_⟩
  refine List.forall_mem_cons.2 ⟨⟨by kernel_rfl, by kernel_rfl, by kernel_rfl, by decide, by decide⟩, ?_⟩
  refine List.forall_mem_cons.2 ⟨⟨by kernel_rfl, by kernel_rfl, by kernel_rfl, by decide, by decide⟩, ?_⟩
  refine List.forall_mem_cons.2 ⟨⟨by kernel_rfl, by kernel_rfl, by kernel_rfl, by decide, by decide⟩, ?_⟩
  refine List.forall_mem_cons.2 ⟨⟨by kernel_rfl, by kernel_rfl, by kernel_rfl, by decide, by decide⟩, ?_⟩
  refine List.forall_mem_cons.2 ⟨⟨by kernel_rfl, by kernel_rfl, by kernel_rfl, by decide, by decide⟩, ?_⟩
  refine List.forall_mem_cons.2 ⟨⟨by kernel_rfl, by kernel_rfl, by kernel_rfl, by decide, by decide⟩, ?_⟩
  refine List.forall_mem_cons.2 ⟨⟨by kernel_rfl, by kernel_rfl, by kernel_rfl, by decide, by decide⟩, ?_⟩
  refine List.forall_mem_cons.2 ⟨⟨by kernel_rfl, by kernel_rfl, by kernel_rfl, by decide, by decide⟩, ?_⟩
  refine List.forall_mem_cons.2 ⟨⟨by kernel_rfl, by kernel_rfl, by kernel_rfl, by decide, by decide⟩, ?_⟩
  refine List.forall_mem_cons.2 ⟨⟨by kernel_rfl, by kernel_rfl, by kernel_rfl, by decide, by decide⟩, ?_⟩
  refine List.forall_mem_cons.2 ⟨⟨by kernel_rfl, by kernel_rfl, by kernel_rfl, by decide, by decide⟩, ?_⟩
  refine List.forall_mem_cons.2 ⟨⟨by kernel_rfl, by kernel_rfl, by kernel_rfl, by decide, by decide⟩, ?_⟩
  refine List.forall_mem_cons.2 ⟨⟨by kernel_rfl, by kernel_rfl, by kernel_rfl, by decide, by decide⟩, ?_⟩
  refine List.forall_mem_cons.2 ⟨⟨by kernel_rfl, by kernel_rfl, by kernel_rfl, by decide, by decide⟩, ?_⟩
  refine List.forall_mem_cons.2 ⟨⟨by kernel_rfl, by kernel_rfl, by kernel_rfl, by decide, by decide⟩, ?_⟩
  refine List.forall_mem_cons.2 ⟨⟨by kernel_rfl, by kernel_rfl, by kernel_rfl, by decide, by decide⟩, ?_⟩
  refine List.forall_mem_cons.2 ⟨⟨by kernel_rfl, by kernel_rfl, by kernel_rfl, by decide, by decide⟩, ?_⟩
  refine List.forall_mem_cons.2 ⟨⟨by kernel_rfl, by kernel_rfl, by kernel_rfl, by decide, by decide⟩, ?_⟩
  refine List.forall_mem_cons.2 ⟨⟨by kernel_rfl, by kernel_rfl, by kernel_rfl, by decide, by decide⟩, ?_⟩
  refine List.forall_mem_cons.2 ⟨⟨by kernel_rfl, by kernel_rfl, by kernel_rfl, by decide, by decide⟩, ?_⟩
  refine List.forall_mem_cons.2 ⟨⟨by kernel_rfl, by kernel_rfl, by kernel_rfl, by decide, by decide⟩, ?_⟩
  refine List.forall_mem_cons.2 ⟨⟨by kernel_rfl, by kernel_rfl, by kernel_rfl, by decide, by decide⟩, ?_⟩
  refine List.forall_mem_cons.2 ⟨⟨by kernel_rfl, by kernel_rfl, by kernel_rfl, by decide, by decide⟩, ?_⟩
  refine List.forall_mem_cons.2 ⟨⟨by kernel_rfl, by kernel_rfl, by kernel_rfl, by decide, by decide⟩, ?_⟩
  refine List.forall_mem_cons.2 ⟨⟨by kernel_rfl, by kernel_rfl, by kernel_rfl, by decide, by decide⟩, ?_⟩
  refine List.forall_mem_cons.2 ⟨⟨by kernel_rfl, by kernel_rfl, by kernel_rfl, by decide, by decide⟩, ?_⟩
  refine List.forall_mem_cons.2 ⟨⟨by kernel_rfl, by kernel_rfl, by kernel_rfl, by decide, by decide⟩, ?_⟩
  refine List.forall_mem_cons.2 ⟨⟨by kernel_rfl, by kernel_rfl, by kernel_rfl, by decide, by decide⟩, ?_⟩
  refine List.forall_mem_cons.2 ⟨⟨by kernel_rfl, by kernel_rfl, by kernel_rfl, by decide, by decide⟩, ?_⟩
  refine List.forall_mem_cons.2 ⟨⟨by kernel_rfl, by kernel_rfl, by kernel_rfl, by decide, by decide⟩, ?_⟩
  refine List.forall_mem_cons.2 ⟨⟨by kernel_rfl, by kernel_rfl, by kernel_rfl, by decide, by decide⟩, ?_⟩
  refine List.forall_mem_cons.2 ⟨⟨by kernel_rfl, by kernel_rfl, by kernel_rfl, by decide, by decide⟩, ?_⟩
  refine List.forall_mem_cons.2 ⟨⟨by kernel_rfl, by kernel_rfl, by kernel_rfl, by decide, by decide⟩, ?_⟩
  refine List.forall_mem_cons.2 ⟨⟨by kernel_rfl, by kernel_rfl, by kernel_rfl, by decide, by decide⟩, ?_⟩
  refine List.forall_mem_cons.2 ⟨⟨by kernel_rfl, by kernel_rfl, by kernel_rfl, by decide, by decide⟩, ?_⟩
  refine List.forall_mem_cons.2 ⟨⟨by kernel_rfl, by kernel_rfl, by kernel_rfl, by decide, by decide⟩, ?_⟩
  refine List.forall_mem_cons.2 ⟨⟨by kernel_rfl, by kernel_rfl, by kernel_rfl, by decide, by decide⟩, ?_⟩
  refine List.forall_mem_cons.2 ⟨⟨by kernel_rfl, by kernel_rfl, by kernel_rfl, by decide, by decide⟩, ?_⟩
  refine List.forall_mem_cons.2 ⟨⟨by kernel_rfl, by kernel_rfl, by kernel_rfl, by decide, by decide⟩, ?_⟩
  refine List.forall_mem_cons.2 ⟨⟨by kernel_rfl, by kernel_rfl, by kernel_rfl, by decide, by decide⟩, ?_⟩
  refine List.forall_mem_cons.2 ⟨⟨by kernel_rfl, by kernel_rfl, by kernel_rfl, by decide, by decide⟩, ?_⟩
  refine List.forall_mem_cons.2 ⟨⟨by kernel_rfl, by kernel_rfl, by kernel_rfl, by decide, by decide⟩, ?_⟩
  refine List.forall_mem_cons.2 ⟨⟨by kernel_rfl, by kernel_rfl, by kernel_rfl, by decide, by decide⟩, ?_⟩
  refine List.forall_mem_cons.2 ⟨⟨by kernel_rfl, by kernel_rfl, by kernel_rfl, by decide, by decide⟩, ?_⟩
  refine List.forall_mem_cons.2 ⟨⟨by kernel_rfl, by kernel_rfl, by kernel_rfl, by decide, by decide⟩, ?_⟩
  refine List.forall_mem_cons.2 ⟨⟨by kernel_rfl, by kernel_rfl, by kernel_rfl, by decide, by decide⟩, ?_⟩
  refine List.forall_mem_cons.2 ⟨⟨by kernel_rfl, by kernel_rfl, by kernel_rfl, by decide, by decide⟩, ?_⟩
  refine List.forall_mem_cons.2 ⟨⟨by kernel_rfl, by kernel_rfl, by kernel_rfl, by decide, by decide⟩, ?_⟩
  refine List.forall_mem_cons.2 ⟨⟨by kernel_rfl, by kernel_rfl, by kernel_rfl, by decide, by decide⟩, ?_⟩
  refine List.forall_mem_cons.2 ⟨⟨by kernel_rfl, by kernel_rfl, by kernel_rfl, by decide, by decide⟩, ?_⟩
  refine List.forall_mem_cons.2 ⟨⟨by kernel_rfl, by kernel_rfl, by kernel_rfl, by decide, by decide⟩, ?_⟩
  refine List.forall_mem_cons.2 ⟨⟨by kernel_rfl, by kernel_rfl, by kernel_rfl, by decide, by decide⟩, ?_⟩
  refine List.forall_mem_cons.2 ⟨⟨by kernel_rfl, by kernel_rfl, by kernel_rfl, by decide, by decide⟩, ?_⟩
  refine List.forall_mem_cons.2 ⟨⟨by kernel_rfl, by kernel_rfl, by kernel_rfl, by decide, by decide⟩, ?_⟩
  refine List.forall_mem_cons.2 ⟨⟨by kernel_rfl, by kernel_rfl, by kernel_rfl, by decide, by decide⟩, ?_⟩
  refine List.forall_mem_cons.2 ⟨⟨by kernel_rfl, by kernel_rfl, by kernel_rfl, by decide, by decide⟩, ?_⟩
  refine List.forall_mem_cons.2 ⟨⟨by kernel_rfl, by kernel_rfl, by kernel_rfl, by decide, by decide⟩, ?_⟩
  refine List.forall_mem_cons.2 ⟨⟨by kernel_rfl, by kernel_rfl, by kernel_rfl, by decide, by decide⟩, ?_⟩
  refine List.forall_mem_cons.2 ⟨⟨by kernel_rfl, by kernel_rfl, by kernel_rfl, by decide, by decide⟩, ?_⟩
  refine List.forall_mem_cons.2 ⟨⟨by kernel_rfl, by kernel_rfl, by kernel_rfl, by decide, by decide⟩, ?_⟩
  refine List.forall_mem_cons.2 ⟨⟨by kernel_rfl, by kernel_rfl, by kernel_rfl, by decide, by decide⟩, ?_⟩
  refine List.forall_mem_cons.2 ⟨⟨by kernel_rfl, by kernel_rfl, by kernel_rfl, by decide, by decide⟩, ?_⟩
  refine List.forall_mem_cons.2 ⟨⟨by kernel_rfl, by kernel_rfl, by kernel_rfl, by decide, by decide⟩, ?_⟩
  refine List.forall_mem_cons.2 ⟨⟨by kernel_rfl, by kernel_rfl, by kernel_rfl, by decide, by decide⟩, ?_⟩
  refine List.forall_mem_cons.2 ⟨⟨by kernel_rfl, by kernel_rfl, by kernel_rfl, by decide, by decide⟩, ?_⟩
  refine List.forall_mem_cons.2 ⟨⟨by kernel_rfl, by kernel_rfl, by kernel_rfl, by decide, by decide⟩, ?_⟩
  refine List.forall_mem_cons.2 ⟨⟨by kernel_rfl, by kernel_rfl, by kernel_rfl, by decide, by decide⟩, ?_⟩
  refine List.forall_mem_cons.2 ⟨⟨by kernel_rfl, by kernel_rfl, by kernel_rfl, by decide, by decide⟩, ?_⟩
  refine List.forall_mem_cons.2 ⟨⟨by kernel_rfl, by kernel_rfl, by kernel_rfl, by decide, by decide⟩, ?_⟩
  refine List.forall_mem_cons.2 ⟨⟨by kernel_rfl, by kernel_rfl, by kernel_rfl, by decide, by decide⟩, ?_⟩
  refine List.forall_mem_cons.2 ⟨⟨by kernel_rfl, by kernel_rfl, by kernel_rfl, by decide, by decide⟩, ?_⟩
  refine List.forall_mem_cons.2 ⟨⟨by kernel_rfl, by kernel_rfl, by kernel_rfl, by decide, by decide⟩, ?_⟩
  refine List.forall_mem_cons.2 ⟨⟨by kernel_rfl, by kernel_rfl, by kernel_rfl, by decide, by decide⟩, ?_⟩
  refine List.forall_mem_cons.2 ⟨⟨by kernel_rfl, by kernel_rfl, by kernel_rfl, by decide, by decide⟩, ?_⟩
  refine List.forall_mem_cons.2 ⟨⟨by kernel_rfl, by kernel_rfl, by kernel_rfl, by decide, by decide⟩, ?_⟩
  refine List.forall_mem_cons.2 ⟨⟨by kernel_rfl, by kernel_rfl, by kernel_rfl, by decide, by decide⟩, ?_⟩
  refine List.forall_mem_cons.2 ⟨⟨by kernel_rfl, by kernel_rfl, by kernel_rfl, by decide, by decide⟩, ?_⟩
  refine List.forall_mem_cons.2 ⟨⟨by kernel_rfl, by kernel_rfl, by kernel_rfl, by decide, by decide⟩, ?_⟩
  refine List.forall_mem_cons.2 ⟨⟨by kernel_rfl, by kernel_rfl, by kernel_rfl, by decide, by decide⟩, ?_⟩
  refine List.forall_mem_cons.2 ⟨⟨by kernel_rfl, by kernel_rfl, by kernel_rfl, by decide, by decide⟩, ?_⟩
  refine List.forall_mem_cons.2 ⟨⟨by kernel_rfl, by kernel_rfl, by kernel_rfl, by decide, by decide⟩, ?_⟩
  refine List.forall_mem_cons.2 ⟨⟨by kernel_rfl, by kernel_rfl, by kernel_rfl, by decide, by decide⟩, ?_⟩
  refine List.forall_mem_cons.2 ⟨⟨by kernel_rfl, by kernel_rfl, by kernel_rfl, by decide, by decide⟩, ?_⟩
  refine List.forall_mem_cons.2 ⟨⟨by kernel_rfl, by kernel_rfl, by kernel_rfl, by decide, by decide⟩, ?_⟩
  refine List.forall_mem_cons.2 ⟨⟨by kernel_rfl, by kernel_rfl, by kernel_rfl, by decide, by decide⟩, ?_⟩
  refine List.forall_mem_cons.2 ⟨⟨by kernel_rfl, by kernel_rfl, by kernel_rfl, by decide, by decide⟩, ?_⟩
  refine List.forall_mem_cons.2 ⟨⟨by kernel_rfl, by kernel_rfl, by kernel_rfl, by decide, by decide⟩, ?_⟩
  refine List.forall_mem_cons.2 ⟨⟨by kernel_rfl, by kernel_rfl, by kernel_rfl, by decide, by decide⟩, ?_⟩
  refine List.forall_mem_cons.2 ⟨⟨by kernel_rfl, by kernel_rfl, by kernel_rfl, by decide, by decide⟩, ?_⟩
  refine List.forall_mem_cons.2 ⟨⟨by kernel_rfl, by kernel_rfl, by kernel_rfl, by decide, by decide⟩, ?_⟩
  refine List.forall_mem_cons.2 ⟨⟨by kernel_rfl, by kernel_rfl, by kernel_rfl, by decide, by decide⟩, ?_⟩
  exact fun p hp => absurd hp (by simp)
theorem mixed : Try.prog.follows .mixedOrders = true := by kernel_rfl
theorem laid : laidOutB Try.prog = true := by kernel_rfl
end Go.Sym
