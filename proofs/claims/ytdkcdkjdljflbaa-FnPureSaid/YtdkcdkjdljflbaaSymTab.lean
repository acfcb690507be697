/- The seat's table of types, and that it says of the loaded program what is so. -/
import Derived.Test.YtdkcdkjdljflbaaSymW
import Derived.Test.YtdkcdkjdljflbaaProg
import Derived.KernelRfl
namespace Go.Sym
open Go.Proofs
set_option linter.unusedVariables false
set_option linter.unusedSimpArgs false
set_option maxRecDepth 100000
def tab : List (TypeId × TI) := [
  (1, ⟨.other, 1, 8, [.nilf]⟩),
  (2, ⟨.int .i64, 1, 8, [.int .i64 0]⟩),
  (3, ⟨.int .i64, 1, 8, [.int .i64 0]⟩),
  (4, ⟨.bool, 1, 1, [.bool false]⟩),
  (5, ⟨.int .u8, 1, 1, [.int .u8 0]⟩),
  (6, ⟨.int .u8, 1, 1, [.int .u8 0]⟩),
  (7, ⟨.strct [⟨0, 1, false⟩, ⟨1, 1, false⟩, ⟨2, 1, false⟩, ⟨3, 1, false⟩], 4, 24, [.int .i64 0, .int .i64 0, .bool false, .int .u8 0]⟩),
  (8, ⟨.strct [⟨0, 1, false⟩, ⟨1, 1, false⟩, ⟨2, 1, false⟩, ⟨3, 1, false⟩], 4, 24, [.int .i64 0, .int .i64 0, .bool false, .int .u8 0]⟩),
  (9, ⟨.str, 1, 16, [.str ⟨#[]⟩]⟩),
  (10, ⟨.str, 1, 16, [.str ⟨#[]⟩]⟩),
  (11, ⟨.str, 1, 16, [.str ⟨#[]⟩]⟩),
  (12, ⟨.int .u64, 1, 8, [.int .u64 0]⟩),
  (13, ⟨.strct [⟨0, 1, false⟩, ⟨1, 1, false⟩], 2, 24, [.str ⟨#[]⟩, .int .u64 0]⟩),
  (14, ⟨.strct [⟨0, 1, false⟩, ⟨1, 1, false⟩], 2, 24, [.str ⟨#[]⟩, .int .u64 0]⟩),
  (18, ⟨.strct [⟨0, 1, false⟩], 1, 8, [.nilp]⟩),
  (19, ⟨.strct [⟨0, 1, false⟩], 1, 8, [.nilp]⟩),
  (21, ⟨.int .i32, 1, 4, [.int .i32 0]⟩),
  (22, ⟨.slc 24 (.lst (.int .i64)), 1, 24, [.zc 24 (.lst (.int .i64))]⟩),
  (23, ⟨.other, 1, 8, [.nilf]⟩),
  (24, ⟨.slc 3 (.int .i64), 1, 24, [.zc 3 (.int .i64)]⟩),
  (25, ⟨.strct [⟨0, 1, false⟩, ⟨1, 1, false⟩], 2, 48, [.zc 3 (.int .i64), .zc 3 (.int .i64)]⟩),
  (26, ⟨.strct [⟨0, 1, false⟩, ⟨1, 1, false⟩], 2, 48, [.zc 3 (.int .i64), .zc 3 (.int .i64)]⟩),
  (28, ⟨.other, 1, 8, [.nilf]⟩),
  (29, ⟨.other, 1, 8, [.nilf]⟩),
  (30, ⟨.other, 1, 8, [.nilf]⟩),
  (31, ⟨.other, 1, 8, [.nilf]⟩),
  (32, ⟨.other, 1, 8, [.nilf]⟩),
  (33, ⟨.other, 1, 8, [.nilf]⟩),
  (34, ⟨.other, 1, 8, [.nilf]⟩),
  (35, ⟨.other, 1, 8, [.nilf]⟩),
  (36, ⟨.other, 1, 8, [.nilf]⟩),
  (37, ⟨.other, 1, 8, [.nilf]⟩),
  (38, ⟨.slc 5 (.int .u8), 1, 24, [.zc 5 (.int .u8)]⟩),
  (39, ⟨.other, 1, 8, [.nilf]⟩),
  (40, ⟨.strct [⟨0, 1, false⟩, ⟨1, 1, false⟩], 2, 32, [.int .i64 0, .zc 3 (.int .i64)]⟩),
  (41, ⟨.strct [⟨0, 1, false⟩, ⟨1, 1, false⟩], 2, 32, [.int .i64 0, .zc 3 (.int .i64)]⟩),
  (43, ⟨.other, 1, 8, [.nilf]⟩),
  (44, ⟨.other, 1, 8, [.nilf]⟩),
  (46, ⟨.other, 1, 8, [.nilf]⟩),
  (47, ⟨.other, 1, 8, [.nilf]⟩),
  (48, ⟨.other, 1, 8, [.nilf]⟩),
  (49, ⟨.other, 1, 8, [.nilf]⟩),
  (50, ⟨.other, 1, 8, [.nilf]⟩),
  (51, ⟨.other, 1, 8, [.nilf]⟩),
  (52, ⟨.other, 1, 8, [.nilf]⟩),
  (53, ⟨.other, 1, 8, [.nilf]⟩),
  (54, ⟨.other, 1, 8, [.nilf]⟩),
  (55, ⟨.other, 1, 8, [.nilf]⟩),
  (56, ⟨.other, 1, 8, [.nilf]⟩),
  (57, ⟨.other, 1, 8, [.nilf]⟩),
  (58, ⟨.other, 1, 8, [.nilf]⟩),
  (59, ⟨.other, 1, 8, [.nilf]⟩),
  (60, ⟨.other, 1, 8, [.nilf]⟩),
  (61, ⟨.other, 1, 8, [.nilf]⟩),
  (62, ⟨.other, 1, 8, [.nilf]⟩),
  (63, ⟨.other, 1, 8, [.nilf]⟩),
  (64, ⟨.other, 1, 8, [.nilf]⟩),
  (65, ⟨.int .u64, 1, 8, [.int .u64 0]⟩),
  (66, ⟨.other, 1, 8, [.nilf]⟩),
  (67, ⟨.other, 1, 8, [.nilf]⟩),
  (68, ⟨.other, 1, 8, [.nilf]⟩),
  (69, ⟨.other, 1, 8, [.nilf]⟩),
  (70, ⟨.other, 1, 8, [.nilf]⟩),
  (71, ⟨.other, 1, 8, [.nilf]⟩),
  (72, ⟨.other, 1, 8, [.nilf]⟩),
  (74, ⟨.other, 1, 8, [.nilf]⟩),
  (75, ⟨.other, 1, 8, [.nilf]⟩),
  (76, ⟨.other, 1, 8, [.nilf]⟩),
  (77, ⟨.other, 1, 8, [.nilf]⟩),
  (78, ⟨.slc 9 .str, 1, 24, [.zc 9 .str]⟩),
  (79, ⟨.other, 1, 8, [.nilf]⟩),
  (80, ⟨.other, 1, 8, [.nilf]⟩),
  (81, ⟨.other, 1, 8, [.nilf]⟩),
  (82, ⟨.strct [⟨0, 1, false⟩, ⟨1, 1, false⟩, ⟨2, 1, false⟩], 3, 40, [.zc 5 (.int .u8), .int .i64 0, .int .i64 0]⟩),
  (83, ⟨.strct [⟨0, 1, false⟩, ⟨1, 1, false⟩, ⟨2, 1, false⟩], 3, 40, [.zc 5 (.int .u8), .int .i64 0, .int .i64 0]⟩),
  (84, ⟨.other, 1, 8, [.nilf]⟩),
  (85, ⟨.other, 1, 8, [.nilf]⟩),
  (86, ⟨.other, 1, 8, [.nilf]⟩),
  (87, ⟨.other, 1, 8, [.nilf]⟩),
  (88, ⟨.other, 1, 8, [.nilf]⟩),
  (89, ⟨.int .u32, 1, 4, [.int .u32 0]⟩),
  (90, ⟨.other, 1, 8, [.nilf]⟩),
  (91, ⟨.int .u64, 1, 8, [.int .u64 0]⟩),
  (92, ⟨.other, 1, 8, [.nilf]⟩),
  (93, ⟨.strct [⟨0, 1, false⟩, ⟨1, 1, false⟩, ⟨2, 1, false⟩, ⟨3, 1, false⟩], 4, 40, [.nilp, .nilp, .nilp, .str ⟨#[]⟩]⟩),
  (94, ⟨.strct [⟨0, 1, false⟩, ⟨1, 1, false⟩, ⟨2, 1, false⟩, ⟨3, 1, false⟩], 4, 40, [.nilp, .nilp, .nilp, .str ⟨#[]⟩]⟩),
  (98, ⟨.other, 1, 8, [.nilf]⟩),
  (99, ⟨.int .u8, 1, 1, [.int .u8 0]⟩),
  (100, ⟨.int .u8, 1, 1, [.int .u8 0]⟩),
  (101, ⟨.other, 1, 8, [.nilf]⟩),
  (103, ⟨.int .i32, 1, 4, [.int .i32 0]⟩),
  (104, ⟨.int .i32, 1, 4, [.int .i32 0]⟩),
  (105, ⟨.strct [⟨0, 1, false⟩, ⟨1, 1, false⟩, ⟨2, 1, false⟩, ⟨3, 1, false⟩, ⟨4, 1, false⟩, ⟨5, 1, false⟩, ⟨6, 1, false⟩, ⟨7, 1, false⟩, ⟨8, 1, false⟩, ⟨9, 1, false⟩, ⟨10, 1, false⟩], 11, 48, [.int .u64 0, .int .u64 0, .int .u32 0, .int .u8 0, .int .u8 0, .int .u8 0, .int .u8 0, .nilf, .nilp, .int .i32 0, .int .i32 0]⟩),
  (106, ⟨.strct [⟨0, 1, false⟩, ⟨1, 1, false⟩, ⟨2, 1, false⟩, ⟨3, 1, false⟩, ⟨4, 1, false⟩, ⟨5, 1, false⟩, ⟨6, 1, false⟩, ⟨7, 1, false⟩, ⟨8, 1, false⟩, ⟨9, 1, false⟩, ⟨10, 1, false⟩], 11, 48, [.int .u64 0, .int .u64 0, .int .u32 0, .int .u8 0, .int .u8 0, .int .u8 0, .int .u8 0, .nilf, .nilp, .int .i32 0, .int .i32 0]⟩),
  (107, ⟨.other, 1, 8, [.nilf]⟩)]
theorem tyOk {E : Env} (h : E.tab = tab) : TyOk Try.prog E := by
  unfold TyOk
  rw [h]
  refine ?_
  unfold tab
  refine List.forall_mem_cons.2 ⟨⟨by kernel_rfl, by kernel_rfl, by kernel_rfl, by decide, by decide, by kernel_rfl⟩, ?_⟩
  refine List.forall_mem_cons.2 ⟨⟨by kernel_rfl, by kernel_rfl, by kernel_rfl, by decide, by decide, by kernel_rfl⟩, ?_⟩
  refine List.forall_mem_cons.2 ⟨⟨by kernel_rfl, by kernel_rfl, by kernel_rfl, by decide, by decide, by kernel_rfl⟩, ?_⟩
  refine List.forall_mem_cons.2 ⟨⟨by kernel_rfl, by kernel_rfl, by kernel_rfl, by decide, by decide, by kernel_rfl⟩, ?_⟩
  refine List.forall_mem_cons.2 ⟨⟨by kernel_rfl, by kernel_rfl, by kernel_rfl, by decide, by decide, by kernel_rfl⟩, ?_⟩
  refine List.forall_mem_cons.2 ⟨⟨by kernel_rfl, by kernel_rfl, by kernel_rfl, by decide, by decide, by kernel_rfl⟩, ?_⟩
  refine List.forall_mem_cons.2 ⟨⟨by kernel_rfl, by kernel_rfl, by kernel_rfl, by decide, by decide, by kernel_rfl⟩, ?_⟩
  refine List.forall_mem_cons.2 ⟨⟨by kernel_rfl, by kernel_rfl, by kernel_rfl, by decide, by decide, by kernel_rfl⟩, ?_⟩
  refine List.forall_mem_cons.2 ⟨⟨by kernel_rfl, by kernel_rfl, by kernel_rfl, by decide, by decide, by kernel_rfl⟩, ?_⟩
  refine List.forall_mem_cons.2 ⟨⟨by kernel_rfl, by kernel_rfl, by kernel_rfl, by decide, by decide, by kernel_rfl⟩, ?_⟩
  refine List.forall_mem_cons.2 ⟨⟨by kernel_rfl, by kernel_rfl, by kernel_rfl, by decide, by decide, by kernel_rfl⟩, ?_⟩
  refine List.forall_mem_cons.2 ⟨⟨by kernel_rfl, by kernel_rfl, by kernel_rfl, by decide, by decide, by kernel_rfl⟩, ?_⟩
  refine List.forall_mem_cons.2 ⟨⟨by kernel_rfl, by kernel_rfl, by kernel_rfl, by decide, by decide, by kernel_rfl⟩, ?_⟩
  refine List.forall_mem_cons.2 ⟨⟨by kernel_rfl, by kernel_rfl, by kernel_rfl, by decide, by decide, by kernel_rfl⟩, ?_⟩
  refine List.forall_mem_cons.2 ⟨⟨by kernel_rfl, by kernel_rfl, by kernel_rfl, by decide, by decide, by kernel_rfl⟩, ?_⟩
  refine List.forall_mem_cons.2 ⟨⟨by kernel_rfl, by kernel_rfl, by kernel_rfl, by decide, by decide, by kernel_rfl⟩, ?_⟩
  refine List.forall_mem_cons.2 ⟨⟨by kernel_rfl, by kernel_rfl, by kernel_rfl, by decide, by decide, by kernel_rfl⟩, ?_⟩
  refine List.forall_mem_cons.2 ⟨⟨by kernel_rfl, by kernel_rfl, by kernel_rfl, by decide, by decide, by kernel_rfl⟩, ?_⟩
  refine List.forall_mem_cons.2 ⟨⟨by kernel_rfl, by kernel_rfl, by kernel_rfl, by decide, by decide, by kernel_rfl⟩, ?_⟩
  refine List.forall_mem_cons.2 ⟨⟨by kernel_rfl, by kernel_rfl, by kernel_rfl, by decide, by decide, by kernel_rfl⟩, ?_⟩
  refine List.forall_mem_cons.2 ⟨⟨by kernel_rfl, by kernel_rfl, by kernel_rfl, by decide, by decide, by kernel_rfl⟩, ?_⟩
  refine List.forall_mem_cons.2 ⟨⟨by kernel_rfl, by kernel_rfl, by kernel_rfl, by decide, by decide, by kernel_rfl⟩, ?_⟩
  refine List.forall_mem_cons.2 ⟨⟨by kernel_rfl, by kernel_rfl, by kernel_rfl, by decide, by decide, by kernel_rfl⟩, ?_⟩
  refine List.forall_mem_cons.2 ⟨⟨by kernel_rfl, by kernel_rfl, by kernel_rfl, by decide, by decide, by kernel_rfl⟩, ?_⟩
  refine List.forall_mem_cons.2 ⟨⟨by kernel_rfl, by kernel_rfl, by kernel_rfl, by decide, by decide, by kernel_rfl⟩, ?_⟩
  refine List.forall_mem_cons.2 ⟨⟨by kernel_rfl, by kernel_rfl, by kernel_rfl, by decide, by decide, by kernel_rfl⟩, ?_⟩
  refine List.forall_mem_cons.2 ⟨⟨by kernel_rfl, by kernel_rfl, by kernel_rfl, by decide, by decide, by kernel_rfl⟩, ?_⟩
  refine List.forall_mem_cons.2 ⟨⟨by kernel_rfl, by kernel_rfl, by kernel_rfl, by decide, by decide, by kernel_rfl⟩, ?_⟩
  refine List.forall_mem_cons.2 ⟨⟨by kernel_rfl, by kernel_rfl, by kernel_rfl, by decide, by decide, by kernel_rfl⟩, ?_⟩
  refine List.forall_mem_cons.2 ⟨⟨by kernel_rfl, by kernel_rfl, by kernel_rfl, by decide, by decide, by kernel_rfl⟩, ?_⟩
  refine List.forall_mem_cons.2 ⟨⟨by kernel_rfl, by kernel_rfl, by kernel_rfl, by decide, by decide, by kernel_rfl⟩, ?_⟩
  refine List.forall_mem_cons.2 ⟨⟨by kernel_rfl, by kernel_rfl, by kernel_rfl, by decide, by decide, by kernel_rfl⟩, ?_⟩
  refine List.forall_mem_cons.2 ⟨⟨by kernel_rfl, by kernel_rfl, by kernel_rfl, by decide, by decide, by kernel_rfl⟩, ?_⟩
  refine List.forall_mem_cons.2 ⟨⟨by kernel_rfl, by kernel_rfl, by kernel_rfl, by decide, by decide, by kernel_rfl⟩, ?_⟩
  refine List.forall_mem_cons.2 ⟨⟨by kernel_rfl, by kernel_rfl, by kernel_rfl, by decide, by decide, by kernel_rfl⟩, ?_⟩
  refine List.forall_mem_cons.2 ⟨⟨by kernel_rfl, by kernel_rfl, by kernel_rfl, by decide, by decide, by kernel_rfl⟩, ?_⟩
  refine List.forall_mem_cons.2 ⟨⟨by kernel_rfl, by kernel_rfl, by kernel_rfl, by decide, by decide, by kernel_rfl⟩, ?_⟩
  refine List.forall_mem_cons.2 ⟨⟨by kernel_rfl, by kernel_rfl, by kernel_rfl, by decide, by decide, by kernel_rfl⟩, ?_⟩
  refine List.forall_mem_cons.2 ⟨⟨by kernel_rfl, by kernel_rfl, by kernel_rfl, by decide, by decide, by kernel_rfl⟩, ?_⟩
  refine List.forall_mem_cons.2 ⟨⟨by kernel_rfl, by kernel_rfl, by kernel_rfl, by decide, by decide, by kernel_rfl⟩, ?_⟩
  refine List.forall_mem_cons.2 ⟨⟨by kernel_rfl, by kernel_rfl, by kernel_rfl, by decide, by decide, by kernel_rfl⟩, ?_⟩
  refine List.forall_mem_cons.2 ⟨⟨by kernel_rfl, by kernel_rfl, by kernel_rfl, by decide, by decide, by kernel_rfl⟩, ?_⟩
  refine List.forall_mem_cons.2 ⟨⟨by kernel_rfl, by kernel_rfl, by kernel_rfl, by decide, by decide, by kernel_rfl⟩, ?_⟩
  refine List.forall_mem_cons.2 ⟨⟨by kernel_rfl, by kernel_rfl, by kernel_rfl, by decide, by decide, by kernel_rfl⟩, ?_⟩
  refine List.forall_mem_cons.2 ⟨⟨by kernel_rfl, by kernel_rfl, by kernel_rfl, by decide, by decide, by kernel_rfl⟩, ?_⟩
  refine List.forall_mem_cons.2 ⟨⟨by kernel_rfl, by kernel_rfl, by kernel_rfl, by decide, by decide, by kernel_rfl⟩, ?_⟩
  refine List.forall_mem_cons.2 ⟨⟨by kernel_rfl, by kernel_rfl, by kernel_rfl, by decide, by decide, by kernel_rfl⟩, ?_⟩
  refine List.forall_mem_cons.2 ⟨⟨by kernel_rfl, by kernel_rfl, by kernel_rfl, by decide, by decide, by kernel_rfl⟩, ?_⟩
  refine List.forall_mem_cons.2 ⟨⟨by kernel_rfl, by kernel_rfl, by kernel_rfl, by decide, by decide, by kernel_rfl⟩, ?_⟩
  refine List.forall_mem_cons.2 ⟨⟨by kernel_rfl, by kernel_rfl, by kernel_rfl, by decide, by decide, by kernel_rfl⟩, ?_⟩
  refine List.forall_mem_cons.2 ⟨⟨by kernel_rfl, by kernel_rfl, by kernel_rfl, by decide, by decide, by kernel_rfl⟩, ?_⟩
  refine List.forall_mem_cons.2 ⟨⟨by kernel_rfl, by kernel_rfl, by kernel_rfl, by decide, by decide, by kernel_rfl⟩, ?_⟩
  refine List.forall_mem_cons.2 ⟨⟨by kernel_rfl, by kernel_rfl, by kernel_rfl, by decide, by decide, by kernel_rfl⟩, ?_⟩
  refine List.forall_mem_cons.2 ⟨⟨by kernel_rfl, by kernel_rfl, by kernel_rfl, by decide, by decide, by kernel_rfl⟩, ?_⟩
  refine List.forall_mem_cons.2 ⟨⟨by kernel_rfl, by kernel_rfl, by kernel_rfl, by decide, by decide, by kernel_rfl⟩, ?_⟩
  refine List.forall_mem_cons.2 ⟨⟨by kernel_rfl, by kernel_rfl, by kernel_rfl, by decide, by decide, by kernel_rfl⟩, ?_⟩
  refine List.forall_mem_cons.2 ⟨⟨by kernel_rfl, by kernel_rfl, by kernel_rfl, by decide, by decide, by kernel_rfl⟩, ?_⟩
  refine List.forall_mem_cons.2 ⟨⟨by kernel_rfl, by kernel_rfl, by kernel_rfl, by decide, by decide, by kernel_rfl⟩, ?_⟩
  refine List.forall_mem_cons.2 ⟨⟨by kernel_rfl, by kernel_rfl, by kernel_rfl, by decide, by decide, by kernel_rfl⟩, ?_⟩
  refine List.forall_mem_cons.2 ⟨⟨by kernel_rfl, by kernel_rfl, by kernel_rfl, by decide, by decide, by kernel_rfl⟩, ?_⟩
  refine List.forall_mem_cons.2 ⟨⟨by kernel_rfl, by kernel_rfl, by kernel_rfl, by decide, by decide, by kernel_rfl⟩, ?_⟩
  refine List.forall_mem_cons.2 ⟨⟨by kernel_rfl, by kernel_rfl, by kernel_rfl, by decide, by decide, by kernel_rfl⟩, ?_⟩
  refine List.forall_mem_cons.2 ⟨⟨by kernel_rfl, by kernel_rfl, by kernel_rfl, by decide, by decide, by kernel_rfl⟩, ?_⟩
  refine List.forall_mem_cons.2 ⟨⟨by kernel_rfl, by kernel_rfl, by kernel_rfl, by decide, by decide, by kernel_rfl⟩, ?_⟩
  refine List.forall_mem_cons.2 ⟨⟨by kernel_rfl, by kernel_rfl, by kernel_rfl, by decide, by decide, by kernel_rfl⟩, ?_⟩
  refine List.forall_mem_cons.2 ⟨⟨by kernel_rfl, by kernel_rfl, by kernel_rfl, by decide, by decide, by kernel_rfl⟩, ?_⟩
  refine List.forall_mem_cons.2 ⟨⟨by kernel_rfl, by kernel_rfl, by kernel_rfl, by decide, by decide, by kernel_rfl⟩, ?_⟩
  refine List.forall_mem_cons.2 ⟨⟨by kernel_rfl, by kernel_rfl, by kernel_rfl, by decide, by decide, by kernel_rfl⟩, ?_⟩
  refine List.forall_mem_cons.2 ⟨⟨by kernel_rfl, by kernel_rfl, by kernel_rfl, by decide, by decide, by kernel_rfl⟩, ?_⟩
  refine List.forall_mem_cons.2 ⟨⟨by kernel_rfl, by kernel_rfl, by kernel_rfl, by decide, by decide, by kernel_rfl⟩, ?_⟩
  refine List.forall_mem_cons.2 ⟨⟨by kernel_rfl, by kernel_rfl, by kernel_rfl, by decide, by decide, by kernel_rfl⟩, ?_⟩
  refine List.forall_mem_cons.2 ⟨⟨by kernel_rfl, by kernel_rfl, by kernel_rfl, by decide, by decide, by kernel_rfl⟩, ?_⟩
  refine List.forall_mem_cons.2 ⟨⟨by kernel_rfl, by kernel_rfl, by kernel_rfl, by decide, by decide, by kernel_rfl⟩, ?_⟩
  refine List.forall_mem_cons.2 ⟨⟨by kernel_rfl, by kernel_rfl, by kernel_rfl, by decide, by decide, by kernel_rfl⟩, ?_⟩
  refine List.forall_mem_cons.2 ⟨⟨by kernel_rfl, by kernel_rfl, by kernel_rfl, by decide, by decide, by kernel_rfl⟩, ?_⟩
  refine List.forall_mem_cons.2 ⟨⟨by kernel_rfl, by kernel_rfl, by kernel_rfl, by decide, by decide, by kernel_rfl⟩, ?_⟩
  refine List.forall_mem_cons.2 ⟨⟨by kernel_rfl, by kernel_rfl, by kernel_rfl, by decide, by decide, by kernel_rfl⟩, ?_⟩
  refine List.forall_mem_cons.2 ⟨⟨by kernel_rfl, by kernel_rfl, by kernel_rfl, by decide, by decide, by kernel_rfl⟩, ?_⟩
  refine List.forall_mem_cons.2 ⟨⟨by kernel_rfl, by kernel_rfl, by kernel_rfl, by decide, by decide, by kernel_rfl⟩, ?_⟩
  refine List.forall_mem_cons.2 ⟨⟨by kernel_rfl, by kernel_rfl, by kernel_rfl, by decide, by decide, by kernel_rfl⟩, ?_⟩
  refine List.forall_mem_cons.2 ⟨⟨by kernel_rfl, by kernel_rfl, by kernel_rfl, by decide, by decide, by kernel_rfl⟩, ?_⟩
  refine List.forall_mem_cons.2 ⟨⟨by kernel_rfl, by kernel_rfl, by kernel_rfl, by decide, by decide, by kernel_rfl⟩, ?_⟩
  refine List.forall_mem_cons.2 ⟨⟨by kernel_rfl, by kernel_rfl, by kernel_rfl, by decide, by decide, by kernel_rfl⟩, ?_⟩
  refine List.forall_mem_cons.2 ⟨⟨by kernel_rfl, by kernel_rfl, by kernel_rfl, by decide, by decide, by kernel_rfl⟩, ?_⟩
  refine List.forall_mem_cons.2 ⟨⟨by kernel_rfl, by kernel_rfl, by kernel_rfl, by decide, by decide, by kernel_rfl⟩, ?_⟩
  refine List.forall_mem_cons.2 ⟨⟨by kernel_rfl, by kernel_rfl, by kernel_rfl, by decide, by decide, by kernel_rfl⟩, ?_⟩
  refine List.forall_mem_cons.2 ⟨⟨by kernel_rfl, by kernel_rfl, by kernel_rfl, by decide, by decide, by kernel_rfl⟩, ?_⟩
  refine List.forall_mem_cons.2 ⟨⟨by kernel_rfl, by kernel_rfl, by kernel_rfl, by decide, by decide, by kernel_rfl⟩, ?_⟩
  refine List.forall_mem_cons.2 ⟨⟨by kernel_rfl, by kernel_rfl, by kernel_rfl, by decide, by decide, by kernel_rfl⟩, ?_⟩
  refine List.forall_mem_cons.2 ⟨⟨by kernel_rfl, by kernel_rfl, by kernel_rfl, by decide, by decide, by kernel_rfl⟩, ?_⟩
  refine List.forall_mem_cons.2 ⟨⟨by kernel_rfl, by kernel_rfl, by kernel_rfl, by decide, by decide, by kernel_rfl⟩, ?_⟩
  refine List.forall_mem_cons.2 ⟨⟨by kernel_rfl, by kernel_rfl, by kernel_rfl, by decide, by decide, by kernel_rfl⟩, ?_⟩
  refine List.forall_mem_cons.2 ⟨⟨by kernel_rfl, by kernel_rfl, by kernel_rfl, by decide, by decide, by kernel_rfl⟩, ?_⟩
  refine List.forall_mem_cons.2 ⟨⟨by kernel_rfl, by kernel_rfl, by kernel_rfl, by decide, by decide, by kernel_rfl⟩, ?_⟩
  refine List.forall_mem_cons.2 ⟨⟨by kernel_rfl, by kernel_rfl, by kernel_rfl, by decide, by decide, by kernel_rfl⟩, ?_⟩
  exact fun p hp => absurd hp (by simp)
theorem mixed : Try.prog.follows .mixedOrders = true := by kernel_rfl
instance : Globs := { tab := [], nst := [22] }
instance : Dm := ⟨True⟩
theorem globs (W : World) : GlobOk (inCtx W) := fun p hp => by cases hp
theorem laid : laidOutB Try.prog = true := by kernel_rfl
end Go.Sym
