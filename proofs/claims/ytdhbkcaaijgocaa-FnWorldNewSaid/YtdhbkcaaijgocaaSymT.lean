/- The table of the types of this place. No condition. -/
import Derived.Test.YtdhbkcaaijgocaaSymD
import Derived.Test.YtdhbkcaaijgocaaProg
namespace Go.Proofs.Ytdhbkcaaijgocaa.Sym
open Go
def types : List (Nat × TI) :=
  [(2, ⟨1, false, [], 0, none, some .i64, [.int .i64 0], 8, false, [none]⟩),
   (3, ⟨1, false, [], 0, none, some .i64, [.int .i64 0], 8, false, [none]⟩),
   (4, ⟨1, false, [], 0, none, none, [.bool false], 1, false, [none]⟩),
   (5, ⟨1, false, [], 0, none, some .u8, [.int .u8 0], 1, false, [none]⟩),
   (12, ⟨1, false, [], 0, none, some .u64, [.int .u64 0], 8, false, [none]⟩),
   (21, ⟨1, false, [], 0, none, some .i32, [.int .i32 0], 4, false, [none]⟩),
   (22, ⟨1, false, [], 5, some .byte, none, [.nilsl], 24, false, [some .byte]⟩),
   (24, ⟨1, false, [], 62, some .body, none, [.nilsl], 24, false, [some .body]⟩),
   (25, ⟨1, false, [], 45, some .pair, none, [.nilsl], 24, false, [some .pair]⟩),
   (26, ⟨4, true, [(0, 1), (1, 1), (2, 1), (3, 1)], 0, none, none, [.int .i64 0, .int .i64 0, .nilsl, .nilsl], 64, false, [none, none, some .body, some .pair]⟩),
   (27, ⟨4, true, [(0, 1), (1, 1), (2, 1), (3, 1)], 0, none, none, [.int .i64 0, .int .i64 0, .nilsl, .nilsl], 64, false, [none, none, some .body, some .pair]⟩),
   (29, ⟨1, false, [], 47, some .event, none, [.nilsl], 24, false, [some .event]⟩),
   (35, ⟨1, false, [], 0, none, none, [.nilp], 8, false, [none]⟩),
   (38, ⟨1, false, [], 3, some .int, none, [.nilsl], 24, false, [some .int]⟩),
   (44, ⟨2, true, [(0, 1), (1, 1)], 0, none, none, [.int .i64 0, .int .i64 0], 16, true, [none, none]⟩),
   (45, ⟨2, true, [(0, 1), (1, 1)], 0, none, none, [.int .i64 0, .int .i64 0], 16, true, [none, none]⟩),
   (46, ⟨3, true, [(0, 1), (1, 2)], 0, none, none, [.bool false, .int .i64 0, .int .i64 0], 24, true, [none, none, none]⟩),
   (47, ⟨3, true, [(0, 1), (1, 2)], 0, none, none, [.bool false, .int .i64 0, .int .i64 0], 24, true, [none, none, none]⟩),
   (53, ⟨2, true, [(0, 1), (1, 1)], 0, none, none, [.nilsl, .int .i64 0], 32, false, [some .byte, none]⟩),
   (54, ⟨2, true, [(0, 1), (1, 1)], 0, none, none, [.nilsl, .int .i64 0], 32, false, [some .byte, none]⟩),
   (57, ⟨3, true, [(0, 1), (1, 1), (2, 1)], 0, none, none, [.int .i64 0, .int .i64 0, .int .i64 0], 24, true, [none, none, none]⟩),
   (58, ⟨3, true, [(0, 1), (1, 1), (2, 1)], 0, none, none, [.int .i64 0, .int .i64 0, .int .i64 0], 24, true, [none, none, none]⟩),
   (59, ⟨2, true, [(0, 1), (1, 1)], 0, none, none, [.int .i64 0, .int .i64 0], 16, true, [none, none]⟩),
   (60, ⟨2, true, [(0, 1), (1, 1)], 0, none, none, [.int .i64 0, .int .i64 0], 16, true, [none, none]⟩),
   (61, ⟨12, true, [(0, 1), (1, 3), (4, 2), (6, 2), (8, 1), (9, 1), (10, 1), (11, 1)], 0, none, none, [.int .i64 0, .int .i64 0, .int .i64 0, .int .i64 0, .int .i64 0, .int .i64 0, .int .i64 0, .int .i64 0, .int .i64 0, .int .i64 0, .int .i64 0, .int .i64 0], 96, true, [none, none, none, none, none, none, none, none, none, none, none, none]⟩),
   (62, ⟨12, true, [(0, 1), (1, 3), (4, 2), (6, 2), (8, 1), (9, 1), (10, 1), (11, 1)], 0, none, none, [.int .i64 0, .int .i64 0, .int .i64 0, .int .i64 0, .int .i64 0, .int .i64 0, .int .i64 0, .int .i64 0, .int .i64 0, .int .i64 0, .int .i64 0, .int .i64 0], 96, true, [none, none, none, none, none, none, none, none, none, none, none, none]⟩),
   (65, ⟨1, false, [], 4, some .bool, none, [.nilsl], 24, false, [some .bool]⟩),
   (67, ⟨1, false, [], 0, none, none, [.nilp], 8, false, [none]⟩),
   (69, ⟨1, false, [], 74, some .contact, none, [.nilsl], 24, false, [some .contact]⟩),
   (71, ⟨3, true, [(0, 2), (2, 1)], 0, none, none, [.int .i64 0, .int .i64 0, .int .i64 0], 24, true, [none, none, none]⟩),
   (72, ⟨3, true, [(0, 2), (2, 1)], 0, none, none, [.int .i64 0, .int .i64 0, .int .i64 0], 24, true, [none, none, none]⟩),
   (73, ⟨5, true, [(0, 1), (1, 1), (2, 3)], 0, none, none, [.int .i64 0, .int .i64 0, .int .i64 0, .int .i64 0, .int .i64 0], 40, true, [none, none, none, none, none]⟩),
   (74, ⟨5, true, [(0, 1), (1, 1), (2, 3)], 0, none, none, [.int .i64 0, .int .i64 0, .int .i64 0, .int .i64 0, .int .i64 0], 40, true, [none, none, none, none, none]⟩),
   (96, ⟨4, true, [(0, 2), (2, 2)], 0, none, none, [.int .i64 0, .int .i64 0, .int .i64 0, .int .i64 0], 32, true, [none, none, none, none]⟩),
   (97, ⟨4, true, [(0, 2), (2, 2)], 0, none, none, [.int .i64 0, .int .i64 0, .int .i64 0, .int .i64 0], 32, true, [none, none, none, none]⟩),
   (105, ⟨1, false, [], 72, some .hit, none, [.nilsl], 24, false, [some .hit]⟩),
   (116, ⟨1, false, [], 0, none, none, [.nilp], 8, false, [none]⟩)]
def tt (t : Nat) : Option TI := look types t
theorem types_ok : typesOk Go.Proofs.Try.prog types = true := by kernel_rfl
end Go.Proofs.Ytdhbkcaaijgocaa.Sym
