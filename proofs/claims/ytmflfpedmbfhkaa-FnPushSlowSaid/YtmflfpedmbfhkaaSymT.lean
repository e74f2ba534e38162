/- The table of the types of this place. No condition. -/
import Derived.Test.YtmflfpedmbfhkaaSymD
import Derived.Test.YtmflfpedmbfhkaaProg
namespace Go.Proofs.Ytmflfpedmbfhkaa.Sym
open Go
def types : List (Nat × TI) :=
  [(2, ⟨1, false, [], 0, none, some .i64, [.int .i64 0], 8, false, [none]⟩),
   (3, ⟨1, false, [], 0, none, some .i64, [.int .i64 0], 8, false, [none]⟩),
   (4, ⟨1, false, [], 0, none, none, [.bool false], 1, false, [none]⟩),
   (5, ⟨1, false, [], 0, none, some .u8, [.int .u8 0], 1, false, [none]⟩),
   (12, ⟨1, false, [], 0, none, some .u64, [.int .u64 0], 8, false, [none]⟩),
   (21, ⟨1, false, [], 0, none, some .i32, [.int .i32 0], 4, false, [none]⟩),
   (22, ⟨1, false, [], 5, some .byte, none, [.nilsl], 24, false, [some .byte]⟩),
   (23, ⟨3, true, [(0, 1), (1, 1), (2, 1)], 0, none, none, [.int .i64 0, .int .i64 0, .int .i64 0], 24, true, [none, none, none]⟩),
   (24, ⟨3, true, [(0, 1), (1, 1), (2, 1)], 0, none, none, [.int .i64 0, .int .i64 0, .int .i64 0], 24, true, [none, none, none]⟩),
   (25, ⟨2, true, [(0, 1), (1, 1)], 0, none, none, [.int .i64 0, .int .i64 0], 16, true, [none, none]⟩),
   (26, ⟨2, true, [(0, 1), (1, 1)], 0, none, none, [.int .i64 0, .int .i64 0], 16, true, [none, none]⟩),
   (27, ⟨12, true, [(0, 1), (1, 3), (4, 2), (6, 2), (8, 1), (9, 1), (10, 1), (11, 1)], 0, none, none, [.int .i64 0, .int .i64 0, .int .i64 0, .int .i64 0, .int .i64 0, .int .i64 0, .int .i64 0, .int .i64 0, .int .i64 0, .int .i64 0, .int .i64 0, .int .i64 0], 96, true, [none, none, none, none, none, none, none, none, none, none, none, none]⟩),
   (28, ⟨12, true, [(0, 1), (1, 3), (4, 2), (6, 2), (8, 1), (9, 1), (10, 1), (11, 1)], 0, none, none, [.int .i64 0, .int .i64 0, .int .i64 0, .int .i64 0, .int .i64 0, .int .i64 0, .int .i64 0, .int .i64 0, .int .i64 0, .int .i64 0, .int .i64 0, .int .i64 0], 96, true, [none, none, none, none, none, none, none, none, none, none, none, none]⟩),
   (29, ⟨3, true, [(0, 2), (2, 1)], 0, none, none, [.int .i64 0, .int .i64 0, .int .i64 0], 24, true, [none, none, none]⟩),
   (30, ⟨3, true, [(0, 2), (2, 1)], 0, none, none, [.int .i64 0, .int .i64 0, .int .i64 0], 24, true, [none, none, none]⟩),
   (39, ⟨1, false, [], 0, none, none, [.nilp], 8, false, [none]⟩),
   (50, ⟨2, true, [(0, 1), (1, 1)], 0, none, none, [.nilsl, .int .i64 0], 32, false, [some .byte, none]⟩),
   (51, ⟨2, true, [(0, 1), (1, 1)], 0, none, none, [.nilsl, .int .i64 0], 32, false, [some .byte, none]⟩),
   (57, ⟨1, false, [], 3, some .int, none, [.nilsl], 24, false, [some .int]⟩),
   (65, ⟨1, false, [], 0, none, none, [.nilp], 8, false, [none]⟩),
   (73, ⟨4, true, [(0, 2), (2, 2)], 0, none, none, [.int .i64 0, .int .i64 0, .int .i64 0, .int .i64 0], 32, true, [none, none, none, none]⟩),
   (74, ⟨4, true, [(0, 2), (2, 2)], 0, none, none, [.int .i64 0, .int .i64 0, .int .i64 0, .int .i64 0], 32, true, [none, none, none, none]⟩),
   (93, ⟨1, false, [], 0, none, none, [.nilp], 8, false, [none]⟩)]
def tt (t : Nat) : Option TI := look types t
theorem types_ok : typesOk Go.Proofs.Try.prog types = true := by kernel_rfl
end Go.Proofs.Ytmflfpedmbfhkaa.Sym
