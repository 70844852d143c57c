/-
  Facts on the types and functions of this seat's translation, each closed and checked by the kernel: what the rules of the text V look up.
  No conditions. Written by a program of the prover's own.
-/
import Derived.Test.YtphifkbeanneaaaProg
import Derived.Test.YtphifkbeanneaaaVOps
namespace Go.Proofs.Ytphifkbeanneaaa
instance : TOne Try.prog 1 := ⟨fun _ => by kernel_rfl⟩
instance : TZero Try.prog 1 (.nilFunc) [.nilFunc] := ⟨by kernel_rfl, rfl⟩
instance : TSize Try.prog 1 1 8 := ⟨by kernel_rfl⟩
instance : TInt Try.prog 2 .i64 := ⟨by kernel_rfl⟩
instance : TOne Try.prog 2 := ⟨fun _ => by kernel_rfl⟩
instance : TZero Try.prog 2 (.int .i64 0) [.int .i64 0] := ⟨by kernel_rfl, rfl⟩
instance : TSize Try.prog 2 1 8 := ⟨by kernel_rfl⟩
instance : TInt Try.prog 3 .i64 := ⟨by kernel_rfl⟩
instance : TOne Try.prog 3 := ⟨fun _ => by kernel_rfl⟩
instance : TZero Try.prog 3 (.int .i64 0) [.int .i64 0] := ⟨by kernel_rfl, rfl⟩
instance : TSize Try.prog 3 1 8 := ⟨by kernel_rfl⟩
instance : TBool Try.prog 4 := ⟨by kernel_rfl⟩
instance : TOne Try.prog 4 := ⟨fun _ => by kernel_rfl⟩
instance : TZero Try.prog 4 (.bool false) [.bool false] := ⟨by kernel_rfl, rfl⟩
instance : TSize Try.prog 4 1 1 := ⟨by kernel_rfl⟩
instance : TInt Try.prog 5 .u8 := ⟨by kernel_rfl⟩
instance : TOne Try.prog 5 := ⟨fun _ => by kernel_rfl⟩
instance : TZero Try.prog 5 (.int .u8 0) [.int .u8 0] := ⟨by kernel_rfl, rfl⟩
instance : TSize Try.prog 5 1 1 := ⟨by kernel_rfl⟩
instance : TOne Try.prog 9 := ⟨fun _ => by kernel_rfl⟩
instance : TZero Try.prog 9 (.string ByteArray.empty) [.string ByteArray.empty] := ⟨by kernel_rfl, rfl⟩
instance : TSize Try.prog 9 1 16 := ⟨by kernel_rfl⟩
instance : TInt Try.prog 12 .u64 := ⟨by kernel_rfl⟩
instance : TOne Try.prog 12 := ⟨fun _ => by kernel_rfl⟩
instance : TZero Try.prog 12 (.int .u64 0) [.int .u64 0] := ⟨by kernel_rfl, rfl⟩
instance : TSize Try.prog 12 1 8 := ⟨by kernel_rfl⟩
instance : TAgg Try.prog 13 2 := ⟨fun _ => by kernel_rfl, by kernel_rfl⟩
instance : TZero Try.prog 13 (.agg #[.string ByteArray.empty, .int .u64 0]) [.string ByteArray.empty, .int .u64 0] := ⟨by kernel_rfl, rfl⟩
instance : TSize Try.prog 13 2 24 := ⟨by kernel_rfl⟩
instance : TField Try.prog 13 0 9 0 := ⟨fun _ _ => by kernel_rfl⟩
instance : TPart1 Try.prog 13 0 0 := ⟨fun _ _ => by kernel_rfl⟩
instance : TField Try.prog 13 1 12 1 := ⟨fun _ _ => by kernel_rfl⟩
instance : TPart1 Try.prog 13 1 1 := ⟨fun _ _ => by kernel_rfl⟩
instance : TBuild Try.prog 13 [(0, 1), (1, 1)] [.string ByteArray.empty, .int .u64 0] := ⟨fun _ => by kernel_rfl⟩
instance : TOne Try.prog 20 := ⟨fun _ => by kernel_rfl⟩
instance : TZero Try.prog 20 (.nilIface) [.nilIface] := ⟨by kernel_rfl, rfl⟩
instance : TSize Try.prog 20 1 16 := ⟨by kernel_rfl⟩
instance : TInt Try.prog 21 .i32 := ⟨by kernel_rfl⟩
instance : TOne Try.prog 21 := ⟨fun _ => by kernel_rfl⟩
instance : TZero Try.prog 21 (.int .i32 0) [.int .i32 0] := ⟨by kernel_rfl, rfl⟩
instance : TSize Try.prog 21 1 4 := ⟨by kernel_rfl⟩
instance : TInt Try.prog 22 .u32 := ⟨by kernel_rfl⟩
instance : TOne Try.prog 22 := ⟨fun _ => by kernel_rfl⟩
instance : TZero Try.prog 22 (.int .u32 0) [.int .u32 0] := ⟨by kernel_rfl, rfl⟩
instance : TSize Try.prog 22 1 4 := ⟨by kernel_rfl⟩
instance : TInt Try.prog 23 .u32 := ⟨by kernel_rfl⟩
instance : TOne Try.prog 23 := ⟨fun _ => by kernel_rfl⟩
instance : TZero Try.prog 23 (.int .u32 0) [.int .u32 0] := ⟨by kernel_rfl, rfl⟩
instance : TSize Try.prog 23 1 4 := ⟨by kernel_rfl⟩
instance : TOne Try.prog 24 := ⟨fun _ => by kernel_rfl⟩
instance : TZero Try.prog 24 (.slice none 0 0) [.slice none 0 0] := ⟨by kernel_rfl, rfl⟩
instance : TSize Try.prog 24 1 24 := ⟨by kernel_rfl⟩
instance : TSlice Try.prog 24 33 := ⟨by kernel_rfl⟩
instance : TInt Try.prog 25 .i64 := ⟨by kernel_rfl⟩
instance : TOne Try.prog 25 := ⟨fun _ => by kernel_rfl⟩
instance : TZero Try.prog 25 (.int .i64 0) [.int .i64 0] := ⟨by kernel_rfl, rfl⟩
instance : TSize Try.prog 25 1 8 := ⟨by kernel_rfl⟩
instance : TOne Try.prog 27 := ⟨fun _ => by kernel_rfl⟩
instance : TZero Try.prog 27 (.nilFunc) [.nilFunc] := ⟨by kernel_rfl, rfl⟩
instance : TSize Try.prog 27 1 8 := ⟨by kernel_rfl⟩
instance : TOne Try.prog 28 := ⟨fun _ => by kernel_rfl⟩
instance : TZero Try.prog 28 (.pointer none) [.pointer none] := ⟨by kernel_rfl, rfl⟩
instance : TSize Try.prog 28 1 8 := ⟨by kernel_rfl⟩
instance : TPtr Try.prog 28 75 := ⟨by kernel_rfl⟩
instance : TOne Try.prog 29 := ⟨fun _ => by kernel_rfl⟩
instance : TZero Try.prog 29 (.nilFunc) [.nilFunc] := ⟨by kernel_rfl, rfl⟩
instance : TSize Try.prog 29 1 8 := ⟨by kernel_rfl⟩
instance : TOne Try.prog 31 := ⟨fun _ => by kernel_rfl⟩
instance : TZero Try.prog 31 (.nilFunc) [.nilFunc] := ⟨by kernel_rfl, rfl⟩
instance : TSize Try.prog 31 1 8 := ⟨by kernel_rfl⟩
instance : TAgg Try.prog 32 2 := ⟨fun _ => by kernel_rfl, by kernel_rfl⟩
instance : TZero Try.prog 32 (.agg #[.int .u32 0, .int .i64 0]) [.int .u32 0, .int .i64 0] := ⟨by kernel_rfl, rfl⟩
instance : TSize Try.prog 32 2 16 := ⟨by kernel_rfl⟩
instance : TField Try.prog 32 0 23 0 := ⟨fun _ _ => by kernel_rfl⟩
instance : TPart1 Try.prog 32 0 0 := ⟨fun _ _ => by kernel_rfl⟩
instance : TField Try.prog 32 1 3 1 := ⟨fun _ _ => by kernel_rfl⟩
instance : TPart1 Try.prog 32 1 1 := ⟨fun _ _ => by kernel_rfl⟩
instance : TBuild Try.prog 32 [(0, 1), (1, 1)] [.int .u32 0, .int .i64 0] := ⟨fun _ => by kernel_rfl⟩
instance : TAgg Try.prog 33 2 := ⟨fun _ => by kernel_rfl, by kernel_rfl⟩
instance : TZero Try.prog 33 (.agg #[.int .u32 0, .int .i64 0]) [.int .u32 0, .int .i64 0] := ⟨by kernel_rfl, rfl⟩
instance : TSize Try.prog 33 2 16 := ⟨by kernel_rfl⟩
instance : TField Try.prog 33 0 23 0 := ⟨fun _ _ => by kernel_rfl⟩
instance : TPart1 Try.prog 33 0 0 := ⟨fun _ _ => by kernel_rfl⟩
instance : TField Try.prog 33 1 3 1 := ⟨fun _ _ => by kernel_rfl⟩
instance : TPart1 Try.prog 33 1 1 := ⟨fun _ _ => by kernel_rfl⟩
instance : TBuild Try.prog 33 [(0, 1), (1, 1)] [.int .u32 0, .int .i64 0] := ⟨fun _ => by kernel_rfl⟩
instance : TAgg Try.prog 34 3 := ⟨fun _ => by kernel_rfl, by kernel_rfl⟩
instance : TZero Try.prog 34 (.agg #[.int .u32 0, .int .i64 0, .int .i64 0]) [.int .u32 0, .int .i64 0, .int .i64 0] := ⟨by kernel_rfl, rfl⟩
instance : TSize Try.prog 34 3 24 := ⟨by kernel_rfl⟩
instance : TField Try.prog 34 0 33 0 := ⟨fun _ _ => by kernel_rfl⟩
instance : TPartN Try.prog 34 0 0 2 := ⟨fun _ _ => by kernel_rfl⟩
instance : TField Try.prog 34 1 3 2 := ⟨fun _ _ => by kernel_rfl⟩
instance : TPart1 Try.prog 34 1 2 := ⟨fun _ _ => by kernel_rfl⟩
instance : TBuild Try.prog 34 [(0, 2), (2, 1)] [.int .u32 0, .int .i64 0, .int .i64 0] := ⟨fun _ => by kernel_rfl⟩
instance : TAgg Try.prog 35 3 := ⟨fun _ => by kernel_rfl, by kernel_rfl⟩
instance : TZero Try.prog 35 (.agg #[.int .u32 0, .int .i64 0, .int .i64 0]) [.int .u32 0, .int .i64 0, .int .i64 0] := ⟨by kernel_rfl, rfl⟩
instance : TSize Try.prog 35 3 24 := ⟨by kernel_rfl⟩
instance : TField Try.prog 35 0 33 0 := ⟨fun _ _ => by kernel_rfl⟩
instance : TPartN Try.prog 35 0 0 2 := ⟨fun _ _ => by kernel_rfl⟩
instance : TField Try.prog 35 1 3 2 := ⟨fun _ _ => by kernel_rfl⟩
instance : TPart1 Try.prog 35 1 2 := ⟨fun _ _ => by kernel_rfl⟩
instance : TBuild Try.prog 35 [(0, 2), (2, 1)] [.int .u32 0, .int .i64 0, .int .i64 0] := ⟨fun _ => by kernel_rfl⟩
instance : TOne Try.prog 37 := ⟨fun _ => by kernel_rfl⟩
instance : TZero Try.prog 37 (.nilFunc) [.nilFunc] := ⟨by kernel_rfl, rfl⟩
instance : TSize Try.prog 37 1 8 := ⟨by kernel_rfl⟩
instance : TOne Try.prog 38 := ⟨fun _ => by kernel_rfl⟩
instance : TZero Try.prog 38 (.nilFunc) [.nilFunc] := ⟨by kernel_rfl, rfl⟩
instance : TSize Try.prog 38 1 8 := ⟨by kernel_rfl⟩
instance : TOne Try.prog 39 := ⟨fun _ => by kernel_rfl⟩
instance : TZero Try.prog 39 (.nilFunc) [.nilFunc] := ⟨by kernel_rfl, rfl⟩
instance : TSize Try.prog 39 1 8 := ⟨by kernel_rfl⟩
instance : TOne Try.prog 40 := ⟨fun _ => by kernel_rfl⟩
instance : TZero Try.prog 40 (.nilFunc) [.nilFunc] := ⟨by kernel_rfl, rfl⟩
instance : TSize Try.prog 40 1 8 := ⟨by kernel_rfl⟩
instance : TOne Try.prog 41 := ⟨fun _ => by kernel_rfl⟩
instance : TZero Try.prog 41 (.slice none 0 0) [.slice none 0 0] := ⟨by kernel_rfl, rfl⟩
instance : TSize Try.prog 41 1 24 := ⟨by kernel_rfl⟩
instance : TSlice Try.prog 41 35 := ⟨by kernel_rfl⟩
instance : TOne Try.prog 43 := ⟨fun _ => by kernel_rfl⟩
instance : TZero Try.prog 43 (.nilFunc) [.nilFunc] := ⟨by kernel_rfl, rfl⟩
instance : TSize Try.prog 43 1 8 := ⟨by kernel_rfl⟩
instance : TOne Try.prog 44 := ⟨fun _ => by kernel_rfl⟩
instance : TZero Try.prog 44 (.nilFunc) [.nilFunc] := ⟨by kernel_rfl, rfl⟩
instance : TSize Try.prog 44 1 8 := ⟨by kernel_rfl⟩
instance : TOne Try.prog 45 := ⟨fun _ => by kernel_rfl⟩
instance : TZero Try.prog 45 (.nilFunc) [.nilFunc] := ⟨by kernel_rfl, rfl⟩
instance : TSize Try.prog 45 1 8 := ⟨by kernel_rfl⟩
instance : TOne Try.prog 46 := ⟨fun _ => by kernel_rfl⟩
instance : TZero Try.prog 46 (.nilFunc) [.nilFunc] := ⟨by kernel_rfl, rfl⟩
instance : TSize Try.prog 46 1 8 := ⟨by kernel_rfl⟩
instance : TOne Try.prog 47 := ⟨fun _ => by kernel_rfl⟩
instance : TZero Try.prog 47 (.pointer none) [.pointer none] := ⟨by kernel_rfl, rfl⟩
instance : TSize Try.prog 47 1 8 := ⟨by kernel_rfl⟩
instance : TPtr Try.prog 47 83 := ⟨by kernel_rfl⟩
instance : TOne Try.prog 49 := ⟨fun _ => by kernel_rfl⟩
instance : TZero Try.prog 49 (.nilFunc) [.nilFunc] := ⟨by kernel_rfl, rfl⟩
instance : TSize Try.prog 49 1 8 := ⟨by kernel_rfl⟩
instance : TOne Try.prog 50 := ⟨fun _ => by kernel_rfl⟩
instance : TZero Try.prog 50 (.nilFunc) [.nilFunc] := ⟨by kernel_rfl, rfl⟩
instance : TSize Try.prog 50 1 8 := ⟨by kernel_rfl⟩
instance : TOne Try.prog 51 := ⟨fun _ => by kernel_rfl⟩
instance : TZero Try.prog 51 (.nilFunc) [.nilFunc] := ⟨by kernel_rfl, rfl⟩
instance : TSize Try.prog 51 1 8 := ⟨by kernel_rfl⟩
instance : TOne Try.prog 52 := ⟨fun _ => by kernel_rfl⟩
instance : TZero Try.prog 52 (.nilFunc) [.nilFunc] := ⟨by kernel_rfl, rfl⟩
instance : TSize Try.prog 52 1 8 := ⟨by kernel_rfl⟩
instance : TOne Try.prog 54 := ⟨fun _ => by kernel_rfl⟩
instance : TZero Try.prog 54 (.nilFunc) [.nilFunc] := ⟨by kernel_rfl, rfl⟩
instance : TSize Try.prog 54 1 8 := ⟨by kernel_rfl⟩
instance : TOne Try.prog 55 := ⟨fun _ => by kernel_rfl⟩
instance : TZero Try.prog 55 (.nilFunc) [.nilFunc] := ⟨by kernel_rfl, rfl⟩
instance : TSize Try.prog 55 1 8 := ⟨by kernel_rfl⟩
instance : TOne Try.prog 56 := ⟨fun _ => by kernel_rfl⟩
instance : TZero Try.prog 56 (.slice none 0 0) [.slice none 0 0] := ⟨by kernel_rfl, rfl⟩
instance : TSize Try.prog 56 1 24 := ⟨by kernel_rfl⟩
instance : TSlice Try.prog 56 59 := ⟨by kernel_rfl⟩
instance : TOne Try.prog 57 := ⟨fun _ => by kernel_rfl⟩
instance : TZero Try.prog 57 (.nilFunc) [.nilFunc] := ⟨by kernel_rfl, rfl⟩
instance : TSize Try.prog 57 1 8 := ⟨by kernel_rfl⟩
instance : TAgg Try.prog 58 4 := ⟨fun _ => by kernel_rfl, by kernel_rfl⟩
instance : TZero Try.prog 58 (.agg #[.int .i64 0, .int .u32 0, .int .i64 0, .int .i64 0]) [.int .i64 0, .int .u32 0, .int .i64 0, .int .i64 0] := ⟨by kernel_rfl, rfl⟩
instance : TSize Try.prog 58 4 32 := ⟨by kernel_rfl⟩
instance : TField Try.prog 58 0 3 0 := ⟨fun _ _ => by kernel_rfl⟩
instance : TPart1 Try.prog 58 0 0 := ⟨fun _ _ => by kernel_rfl⟩
instance : TField Try.prog 58 1 33 1 := ⟨fun _ _ => by kernel_rfl⟩
instance : TPartN Try.prog 58 1 1 2 := ⟨fun _ _ => by kernel_rfl⟩
instance : TField Try.prog 58 2 3 3 := ⟨fun _ _ => by kernel_rfl⟩
instance : TPart1 Try.prog 58 2 3 := ⟨fun _ _ => by kernel_rfl⟩
instance : TBuild Try.prog 58 [(0, 1), (1, 2), (3, 1)] [.int .i64 0, .int .u32 0, .int .i64 0, .int .i64 0] := ⟨fun _ => by kernel_rfl⟩
instance : TAgg Try.prog 59 4 := ⟨fun _ => by kernel_rfl, by kernel_rfl⟩
instance : TZero Try.prog 59 (.agg #[.int .i64 0, .int .u32 0, .int .i64 0, .int .i64 0]) [.int .i64 0, .int .u32 0, .int .i64 0, .int .i64 0] := ⟨by kernel_rfl, rfl⟩
instance : TSize Try.prog 59 4 32 := ⟨by kernel_rfl⟩
instance : TField Try.prog 59 0 3 0 := ⟨fun _ _ => by kernel_rfl⟩
instance : TPart1 Try.prog 59 0 0 := ⟨fun _ _ => by kernel_rfl⟩
instance : TField Try.prog 59 1 33 1 := ⟨fun _ _ => by kernel_rfl⟩
instance : TPartN Try.prog 59 1 1 2 := ⟨fun _ _ => by kernel_rfl⟩
instance : TField Try.prog 59 2 3 3 := ⟨fun _ _ => by kernel_rfl⟩
instance : TPart1 Try.prog 59 2 3 := ⟨fun _ _ => by kernel_rfl⟩
instance : TBuild Try.prog 59 [(0, 1), (1, 2), (3, 1)] [.int .i64 0, .int .u32 0, .int .i64 0, .int .i64 0] := ⟨fun _ => by kernel_rfl⟩
instance : TOne Try.prog 60 := ⟨fun _ => by kernel_rfl⟩
instance : TZero Try.prog 60 (.nilFunc) [.nilFunc] := ⟨by kernel_rfl, rfl⟩
instance : TSize Try.prog 60 1 8 := ⟨by kernel_rfl⟩
instance : TOne Try.prog 61 := ⟨fun _ => by kernel_rfl⟩
instance : TZero Try.prog 61 (.nilFunc) [.nilFunc] := ⟨by kernel_rfl, rfl⟩
instance : TSize Try.prog 61 1 8 := ⟨by kernel_rfl⟩
instance : TOne Try.prog 62 := ⟨fun _ => by kernel_rfl⟩
instance : TZero Try.prog 62 (.nilFunc) [.nilFunc] := ⟨by kernel_rfl, rfl⟩
instance : TSize Try.prog 62 1 8 := ⟨by kernel_rfl⟩
instance : TOne Try.prog 63 := ⟨fun _ => by kernel_rfl⟩
instance : TZero Try.prog 63 (.nilFunc) [.nilFunc] := ⟨by kernel_rfl, rfl⟩
instance : TSize Try.prog 63 1 8 := ⟨by kernel_rfl⟩
instance : TOne Try.prog 64 := ⟨fun _ => by kernel_rfl⟩
instance : TZero Try.prog 64 (.nilFunc) [.nilFunc] := ⟨by kernel_rfl, rfl⟩
instance : TSize Try.prog 64 1 8 := ⟨by kernel_rfl⟩
instance : TOne Try.prog 65 := ⟨fun _ => by kernel_rfl⟩
instance : TZero Try.prog 65 (.nilFunc) [.nilFunc] := ⟨by kernel_rfl, rfl⟩
instance : TSize Try.prog 65 1 8 := ⟨by kernel_rfl⟩
instance : TInt Try.prog 66 .u64 := ⟨by kernel_rfl⟩
instance : TOne Try.prog 66 := ⟨fun _ => by kernel_rfl⟩
instance : TZero Try.prog 66 (.int .u64 0) [.int .u64 0] := ⟨by kernel_rfl, rfl⟩
instance : TSize Try.prog 66 1 8 := ⟨by kernel_rfl⟩
instance : TAgg Try.prog 67 2 := ⟨fun _ => by kernel_rfl, by kernel_rfl⟩
instance : TZero Try.prog 67 (.agg #[.int .u64 0, .int .u64 0]) [.int .u64 0, .int .u64 0] := ⟨by kernel_rfl, rfl⟩
instance : TSize Try.prog 67 2 16 := ⟨by kernel_rfl⟩
instance : TField Try.prog 67 0 66 0 := ⟨fun _ _ => by kernel_rfl⟩
instance : TPart1 Try.prog 67 0 0 := ⟨fun _ _ => by kernel_rfl⟩
instance : TField Try.prog 67 1 66 1 := ⟨fun _ _ => by kernel_rfl⟩
instance : TPart1 Try.prog 67 1 1 := ⟨fun _ _ => by kernel_rfl⟩
instance : TBuild Try.prog 67 [(0, 1), (1, 1)] [.int .u64 0, .int .u64 0] := ⟨fun _ => by kernel_rfl⟩
instance : TAgg Try.prog 68 2 := ⟨fun _ => by kernel_rfl, by kernel_rfl⟩
instance : TZero Try.prog 68 (.agg #[.int .u64 0, .int .u64 0]) [.int .u64 0, .int .u64 0] := ⟨by kernel_rfl, rfl⟩
instance : TSize Try.prog 68 2 16 := ⟨by kernel_rfl⟩
instance : TField Try.prog 68 0 66 0 := ⟨fun _ _ => by kernel_rfl⟩
instance : TPart1 Try.prog 68 0 0 := ⟨fun _ _ => by kernel_rfl⟩
instance : TField Try.prog 68 1 66 1 := ⟨fun _ _ => by kernel_rfl⟩
instance : TPart1 Try.prog 68 1 1 := ⟨fun _ _ => by kernel_rfl⟩
instance : TBuild Try.prog 68 [(0, 1), (1, 1)] [.int .u64 0, .int .u64 0] := ⟨fun _ => by kernel_rfl⟩
instance : TOne Try.prog 69 := ⟨fun _ => by kernel_rfl⟩
instance : TZero Try.prog 69 (.slice none 0 0) [.slice none 0 0] := ⟨by kernel_rfl, rfl⟩
instance : TSize Try.prog 69 1 24 := ⟨by kernel_rfl⟩
instance : TSlice Try.prog 69 68 := ⟨by kernel_rfl⟩
instance : TOne Try.prog 70 := ⟨fun _ => by kernel_rfl⟩
instance : TZero Try.prog 70 (.pointer none) [.pointer none] := ⟨by kernel_rfl, rfl⟩
instance : TSize Try.prog 70 1 8 := ⟨by kernel_rfl⟩
instance : TPtr Try.prog 70 73 := ⟨by kernel_rfl⟩
instance : TAgg Try.prog 71 2 := ⟨fun _ => by kernel_rfl, by kernel_rfl⟩
instance : TZero Try.prog 71 (.agg #[.pointer none, .pointer none]) [.pointer none, .pointer none] := ⟨by kernel_rfl, rfl⟩
instance : TSize Try.prog 71 2 16 := ⟨by kernel_rfl⟩
instance : TArray Try.prog 71 2 70 := ⟨by kernel_rfl⟩
instance : TAgg Try.prog 72 4 := ⟨fun _ => by kernel_rfl, by kernel_rfl⟩
instance : TZero Try.prog 72 (.agg #[.pointer none, .pointer none, .bool false, .int .i64 0]) [.pointer none, .pointer none, .bool false, .int .i64 0] := ⟨by kernel_rfl, rfl⟩
instance : TSize Try.prog 72 4 32 := ⟨by kernel_rfl⟩
instance : TField Try.prog 72 0 71 0 := ⟨fun _ _ => by kernel_rfl⟩
instance : TPartN Try.prog 72 0 0 2 := ⟨fun _ _ => by kernel_rfl⟩
instance : TField Try.prog 72 1 4 2 := ⟨fun _ _ => by kernel_rfl⟩
instance : TPart1 Try.prog 72 1 2 := ⟨fun _ _ => by kernel_rfl⟩
instance : TField Try.prog 72 2 3 3 := ⟨fun _ _ => by kernel_rfl⟩
instance : TPart1 Try.prog 72 2 3 := ⟨fun _ _ => by kernel_rfl⟩
instance : TBuild Try.prog 72 [(0, 2), (2, 1), (3, 1)] [.pointer none, .pointer none, .bool false, .int .i64 0] := ⟨fun _ => by kernel_rfl⟩
instance : TAgg Try.prog 73 4 := ⟨fun _ => by kernel_rfl, by kernel_rfl⟩
instance : TZero Try.prog 73 (.agg #[.pointer none, .pointer none, .bool false, .int .i64 0]) [.pointer none, .pointer none, .bool false, .int .i64 0] := ⟨by kernel_rfl, rfl⟩
instance : TSize Try.prog 73 4 32 := ⟨by kernel_rfl⟩
instance : TField Try.prog 73 0 71 0 := ⟨fun _ _ => by kernel_rfl⟩
instance : TPartN Try.prog 73 0 0 2 := ⟨fun _ _ => by kernel_rfl⟩
instance : TField Try.prog 73 1 4 2 := ⟨fun _ _ => by kernel_rfl⟩
instance : TPart1 Try.prog 73 1 2 := ⟨fun _ _ => by kernel_rfl⟩
instance : TField Try.prog 73 2 3 3 := ⟨fun _ _ => by kernel_rfl⟩
instance : TPart1 Try.prog 73 2 3 := ⟨fun _ _ => by kernel_rfl⟩
instance : TBuild Try.prog 73 [(0, 2), (2, 1), (3, 1)] [.pointer none, .pointer none, .bool false, .int .i64 0] := ⟨fun _ => by kernel_rfl⟩
instance : TAgg Try.prog 74 5 := ⟨fun _ => by kernel_rfl, by kernel_rfl⟩
instance : TZero Try.prog 74 (.agg #[.pointer none, .pointer none, .bool false, .int .i64 0, .int .i64 0]) [.pointer none, .pointer none, .bool false, .int .i64 0, .int .i64 0] := ⟨by kernel_rfl, rfl⟩
instance : TSize Try.prog 74 5 40 := ⟨by kernel_rfl⟩
instance : TField Try.prog 74 0 73 0 := ⟨fun _ _ => by kernel_rfl⟩
instance : TPartN Try.prog 74 0 0 4 := ⟨fun _ _ => by kernel_rfl⟩
instance : TField Try.prog 74 1 3 4 := ⟨fun _ _ => by kernel_rfl⟩
instance : TPart1 Try.prog 74 1 4 := ⟨fun _ _ => by kernel_rfl⟩
instance : TBuild Try.prog 74 [(0, 4), (4, 1)] [.pointer none, .pointer none, .bool false, .int .i64 0, .int .i64 0] := ⟨fun _ => by kernel_rfl⟩
instance : TAgg Try.prog 75 5 := ⟨fun _ => by kernel_rfl, by kernel_rfl⟩
instance : TZero Try.prog 75 (.agg #[.pointer none, .pointer none, .bool false, .int .i64 0, .int .i64 0]) [.pointer none, .pointer none, .bool false, .int .i64 0, .int .i64 0] := ⟨by kernel_rfl, rfl⟩
instance : TSize Try.prog 75 5 40 := ⟨by kernel_rfl⟩
instance : TField Try.prog 75 0 73 0 := ⟨fun _ _ => by kernel_rfl⟩
instance : TPartN Try.prog 75 0 0 4 := ⟨fun _ _ => by kernel_rfl⟩
instance : TField Try.prog 75 1 3 4 := ⟨fun _ _ => by kernel_rfl⟩
instance : TPart1 Try.prog 75 1 4 := ⟨fun _ _ => by kernel_rfl⟩
instance : TBuild Try.prog 75 [(0, 4), (4, 1)] [.pointer none, .pointer none, .bool false, .int .i64 0, .int .i64 0] := ⟨fun _ => by kernel_rfl⟩
instance : TOne Try.prog 76 := ⟨fun _ => by kernel_rfl⟩
instance : TZero Try.prog 76 (.nilFunc) [.nilFunc] := ⟨by kernel_rfl, rfl⟩
instance : TSize Try.prog 76 1 8 := ⟨by kernel_rfl⟩
instance : TOne Try.prog 77 := ⟨fun _ => by kernel_rfl⟩
instance : TZero Try.prog 77 (.nilFunc) [.nilFunc] := ⟨by kernel_rfl, rfl⟩
instance : TSize Try.prog 77 1 8 := ⟨by kernel_rfl⟩
instance : TAgg Try.prog 78 1 := ⟨fun _ => by kernel_rfl, by kernel_rfl⟩
instance : TZero Try.prog 78 (.agg #[.slice none 0 0]) [.slice none 0 0] := ⟨by kernel_rfl, rfl⟩
instance : TSize Try.prog 78 1 24 := ⟨by kernel_rfl⟩
instance : TField Try.prog 78 0 41 0 := ⟨fun _ _ => by kernel_rfl⟩
instance : TPart1 Try.prog 78 0 0 := ⟨fun _ _ => by kernel_rfl⟩
instance : TBuild Try.prog 78 [(0, 1)] [.slice none 0 0] := ⟨fun _ => by kernel_rfl⟩
instance : TAgg Try.prog 79 1 := ⟨fun _ => by kernel_rfl, by kernel_rfl⟩
instance : TZero Try.prog 79 (.agg #[.slice none 0 0]) [.slice none 0 0] := ⟨by kernel_rfl, rfl⟩
instance : TSize Try.prog 79 1 24 := ⟨by kernel_rfl⟩
instance : TField Try.prog 79 0 41 0 := ⟨fun _ _ => by kernel_rfl⟩
instance : TPart1 Try.prog 79 0 0 := ⟨fun _ _ => by kernel_rfl⟩
instance : TBuild Try.prog 79 [(0, 1)] [.slice none 0 0] := ⟨fun _ => by kernel_rfl⟩
instance : TOne Try.prog 80 := ⟨fun _ => by kernel_rfl⟩
instance : TZero Try.prog 80 (.nilFunc) [.nilFunc] := ⟨by kernel_rfl, rfl⟩
instance : TSize Try.prog 80 1 8 := ⟨by kernel_rfl⟩
instance : TOne Try.prog 81 := ⟨fun _ => by kernel_rfl⟩
instance : TZero Try.prog 81 (.nilFunc) [.nilFunc] := ⟨by kernel_rfl, rfl⟩
instance : TSize Try.prog 81 1 8 := ⟨by kernel_rfl⟩
instance : TAgg Try.prog 82 1 := ⟨fun _ => by kernel_rfl, by kernel_rfl⟩
instance : TZero Try.prog 82 (.agg #[.slice none 0 0]) [.slice none 0 0] := ⟨by kernel_rfl, rfl⟩
instance : TSize Try.prog 82 1 24 := ⟨by kernel_rfl⟩
instance : TField Try.prog 82 0 41 0 := ⟨fun _ _ => by kernel_rfl⟩
instance : TPart1 Try.prog 82 0 0 := ⟨fun _ _ => by kernel_rfl⟩
instance : TBuild Try.prog 82 [(0, 1)] [.slice none 0 0] := ⟨fun _ => by kernel_rfl⟩
instance : TAgg Try.prog 83 1 := ⟨fun _ => by kernel_rfl, by kernel_rfl⟩
instance : TZero Try.prog 83 (.agg #[.slice none 0 0]) [.slice none 0 0] := ⟨by kernel_rfl, rfl⟩
instance : TSize Try.prog 83 1 24 := ⟨by kernel_rfl⟩
instance : TField Try.prog 83 0 41 0 := ⟨fun _ _ => by kernel_rfl⟩
instance : TPart1 Try.prog 83 0 0 := ⟨fun _ _ => by kernel_rfl⟩
instance : TBuild Try.prog 83 [(0, 1)] [.slice none 0 0] := ⟨fun _ => by kernel_rfl⟩
instance : TOne Try.prog 84 := ⟨fun _ => by kernel_rfl⟩
instance : TZero Try.prog 84 (.nilFunc) [.nilFunc] := ⟨by kernel_rfl, rfl⟩
instance : TSize Try.prog 84 1 8 := ⟨by kernel_rfl⟩
instance : TOne Try.prog 85 := ⟨fun _ => by kernel_rfl⟩
instance : TZero Try.prog 85 (.nilFunc) [.nilFunc] := ⟨by kernel_rfl, rfl⟩
instance : TSize Try.prog 85 1 8 := ⟨by kernel_rfl⟩
instance : TOne Try.prog 86 := ⟨fun _ => by kernel_rfl⟩
instance : TZero Try.prog 86 (.nilFunc) [.nilFunc] := ⟨by kernel_rfl, rfl⟩
instance : TSize Try.prog 86 1 8 := ⟨by kernel_rfl⟩
instance : TOne Try.prog 87 := ⟨fun _ => by kernel_rfl⟩
instance : TZero Try.prog 87 (.nilFunc) [.nilFunc] := ⟨by kernel_rfl, rfl⟩
instance : TSize Try.prog 87 1 8 := ⟨by kernel_rfl⟩
instance : TOne Try.prog 89 := ⟨fun _ => by kernel_rfl⟩
instance : TZero Try.prog 89 (.nilFunc) [.nilFunc] := ⟨by kernel_rfl, rfl⟩
instance : TSize Try.prog 89 1 8 := ⟨by kernel_rfl⟩
instance : TOne Try.prog 90 := ⟨fun _ => by kernel_rfl⟩
instance : TZero Try.prog 90 (.nilFunc) [.nilFunc] := ⟨by kernel_rfl, rfl⟩
instance : TSize Try.prog 90 1 8 := ⟨by kernel_rfl⟩
instance : TOne Try.prog 91 := ⟨fun _ => by kernel_rfl⟩
instance : TZero Try.prog 91 (.nilFunc) [.nilFunc] := ⟨by kernel_rfl, rfl⟩
instance : TSize Try.prog 91 1 8 := ⟨by kernel_rfl⟩
instance : TOne Try.prog 93 := ⟨fun _ => by kernel_rfl⟩
instance : TZero Try.prog 93 (.nilFunc) [.nilFunc] := ⟨by kernel_rfl, rfl⟩
instance : TSize Try.prog 93 1 8 := ⟨by kernel_rfl⟩
instance : TOne Try.prog 94 := ⟨fun _ => by kernel_rfl⟩
instance : TZero Try.prog 94 (.pointer none) [.pointer none] := ⟨by kernel_rfl, rfl⟩
instance : TSize Try.prog 94 1 8 := ⟨by kernel_rfl⟩
instance : TPtr Try.prog 94 79 := ⟨by kernel_rfl⟩
instance : TOne Try.prog 95 := ⟨fun _ => by kernel_rfl⟩
instance : TZero Try.prog 95 (.nilFunc) [.nilFunc] := ⟨by kernel_rfl, rfl⟩
instance : TSize Try.prog 95 1 8 := ⟨by kernel_rfl⟩
instance : TOne Try.prog 96 := ⟨fun _ => by kernel_rfl⟩
instance : TZero Try.prog 96 (.nilFunc) [.nilFunc] := ⟨by kernel_rfl, rfl⟩
instance : TSize Try.prog 96 1 8 := ⟨by kernel_rfl⟩
instance : TOne Try.prog 97 := ⟨fun _ => by kernel_rfl⟩
instance : TZero Try.prog 97 (.nilFunc) [.nilFunc] := ⟨by kernel_rfl, rfl⟩
instance : TSize Try.prog 97 1 8 := ⟨by kernel_rfl⟩
instance : TOne Try.prog 98 := ⟨fun _ => by kernel_rfl⟩
instance : TZero Try.prog 98 (.nilFunc) [.nilFunc] := ⟨by kernel_rfl, rfl⟩
instance : TSize Try.prog 98 1 8 := ⟨by kernel_rfl⟩
instance : TInt Try.prog 99 .u64 := ⟨by kernel_rfl⟩
instance : TOne Try.prog 99 := ⟨fun _ => by kernel_rfl⟩
instance : TZero Try.prog 99 (.int .u64 0) [.int .u64 0] := ⟨by kernel_rfl, rfl⟩
instance : TSize Try.prog 99 1 8 := ⟨by kernel_rfl⟩
instance : TOne Try.prog 100 := ⟨fun _ => by kernel_rfl⟩
instance : TZero Try.prog 100 (.nilFunc) [.nilFunc] := ⟨by kernel_rfl, rfl⟩
instance : TSize Try.prog 100 1 8 := ⟨by kernel_rfl⟩
instance : TOne Try.prog 109 := ⟨fun _ => by kernel_rfl⟩
instance : TZero Try.prog 109 (.pointer none) [.pointer none] := ⟨by kernel_rfl, rfl⟩
instance : TSize Try.prog 109 1 8 := ⟨by kernel_rfl⟩
instance : TPtr Try.prog 109 5 := ⟨by kernel_rfl⟩
instance : TFun Try.prog 3 := ⟨fun _ _ => by kernel_rfl⟩      -- routing/routingtop.TopRanges
instance : TFun Try.prog 4 := ⟨fun _ _ => by kernel_rfl⟩      -- routing/routinglaw06.TrieLongest
instance : TFun Try.prog 5 := ⟨fun _ _ => by kernel_rfl⟩      -- routing/routinglaw06.TrieOf
instance : TFun Try.prog 6 := ⟨fun _ _ => by kernel_rfl⟩      -- routing/routinglaw06.TrieOrder
instance : TFun Try.prog 7 := ⟨fun _ _ => by kernel_rfl⟩      -- routing/routinglaw06.TrieCalls
instance : TFun Try.prog 8 := ⟨fun _ _ => by kernel_rfl⟩      -- routing/routinglaw06.TrieDrops
instance : TFun Try.prog 9 := ⟨fun _ _ => by kernel_rfl⟩      -- routing/routinglaw06.TrieNil
instance : TFun Try.prog 10 := ⟨fun _ _ => by kernel_rfl⟩      -- routing/cover.Range
instance : TFun Try.prog 11 := ⟨fun _ _ => by kernel_rfl⟩      -- routing/trie.New
instance : TFun Try.prog 12 := ⟨fun _ _ => by kernel_rfl⟩      -- (*routing/trie.Trie).Put
instance : TFun Try.prog 13 := ⟨fun _ _ => by kernel_rfl⟩      -- (*routing/trie.Trie).Lookup
instance : TFun Try.prog 14 := ⟨fun _ _ => by kernel_rfl⟩      -- (*routing/trie.Trie).Len
instance : TFun Try.prog 15 := ⟨fun _ _ => by kernel_rfl⟩      -- routing/routingtop.lives03
instance : TFun Try.prog 16 := ⟨fun _ _ => by kernel_rfl⟩      -- routing/routinglaw06.awake
instance : TFun Try.prog 17 := ⟨fun _ _ => by kernel_rfl⟩      -- routing/trie.Of
instance : TFun Try.prog 18 := ⟨fun _ _ => by kernel_rfl⟩      -- routing/routingref02.Contains
instance : TFun Try.prog 19 := ⟨fun _ _ => by kernel_rfl⟩      -- (*routing/trie.Trie).Above
instance : TFun Try.prog 20 := ⟨fun _ _ => by kernel_rfl⟩      -- routing/routingref06.Of
instance : TFun Try.prog 21 := ⟨fun _ _ => by kernel_rfl⟩      -- routing/routingref03.SameEntries
instance : TFun Try.prog 22 := ⟨fun _ _ => by kernel_rfl⟩      -- (*routing/trie.Trie).All
instance : TFun Try.prog 23 := ⟨fun _ _ => by kernel_rfl⟩      -- (*routing/routingref06.Trie).All
instance : TFun Try.prog 24 := ⟨fun _ _ => by kernel_rfl⟩      -- (*routing/trie.Trie).Get
instance : TFun Try.prog 25 := ⟨fun _ _ => by kernel_rfl⟩      -- routing/routingref02.Compare
instance : TFun Try.prog 26 := ⟨fun _ _ => by kernel_rfl⟩      -- routing/routingref06.New
instance : TFun Try.prog 27 := ⟨fun _ _ => by kernel_rfl⟩      -- routing/routinglaw06.act
instance : TFun Try.prog 28 := ⟨fun _ _ => by kernel_rfl⟩      -- (*routing/routingref06.Trie).Len
instance : TFun Try.prog 29 := ⟨fun _ _ => by kernel_rfl⟩      -- (*routing/trie.Trie).Drop
instance : TFun Try.prog 30 := ⟨fun _ _ => by kernel_rfl⟩      -- (*routing/trie.Trie).Under
instance : TFun Try.prog 31 := ⟨fun _ _ => by kernel_rfl⟩      -- routing/cover.prefixes
instance : TFun Try.prog 32 := ⟨fun _ _ => by kernel_rfl⟩      -- routing/prefix.Valid
instance : TFun Try.prog 33 := ⟨fun _ _ => by kernel_rfl⟩      -- routing/trie.bit
instance : TFun Try.prog 34 := ⟨fun _ _ => by kernel_rfl⟩      -- routing/routingref02.Valid
instance : TFun Try.prog 35 := ⟨fun _ _ => by kernel_rfl⟩      -- routing/routingref02.Make
instance : TFun Try.prog 36 := ⟨fun _ _ => by kernel_rfl⟩      -- (*routing/trie.Trie).down
instance : TFun Try.prog 37 := ⟨fun _ _ => by kernel_rfl⟩      -- (*routing/trie.list).add
instance : TFun Try.prog 38 := ⟨fun _ _ => by kernel_rfl⟩      -- (*routing/routingref06.Trie).Put
instance : TFun Try.prog 39 := ⟨fun _ _ => by kernel_rfl⟩      -- (*routing/trie.Trie).find
instance : TFun Try.prog 40 := ⟨fun _ _ => by kernel_rfl⟩      -- (*routing/routingref06.Trie).Drop
instance : TFun Try.prog 41 := ⟨fun _ _ => by kernel_rfl⟩      -- (*routing/routingref06.Trie).Get
instance : TFun Try.prog 42 := ⟨fun _ _ => by kernel_rfl⟩      -- (*routing/routingref06.Trie).Above
instance : TFun Try.prog 43 := ⟨fun _ _ => by kernel_rfl⟩      -- (*routing/routingref06.Trie).Under
instance : TFun Try.prog 44 := ⟨fun _ _ => by kernel_rfl⟩      -- (*routing/routingref06.Trie).Lookup
instance : TFun Try.prog 45 := ⟨fun _ _ => by kernel_rfl⟩      -- routing/trie.walk
instance : TFun Try.prog 46 := ⟨fun _ _ => by kernel_rfl⟩      -- routing/cover.prefixes$1
instance : TFun Try.prog 47 := ⟨fun _ _ => by kernel_rfl⟩      -- routing/prefix.Last
instance : TFun Try.prog 48 := ⟨fun _ _ => by kernel_rfl⟩      -- routing/prefix.Halves
instance : TFun Try.prog 49 := ⟨fun _ _ => by kernel_rfl⟩      -- routing/bits.Keep
instance : TFun Try.prog 50 := ⟨fun _ _ => by kernel_rfl⟩      -- routing/bits.At
instance : TFun Try.prog 51 := ⟨fun _ _ => by kernel_rfl⟩      -- routing/routingref01.Keep
instance : TFun Try.prog 52 := ⟨fun _ _ => by kernel_rfl⟩      -- routing/prefix.Make
instance : TFun Try.prog 53 := ⟨fun _ _ => by kernel_rfl⟩      -- (*routing/routingref06.Trie).place
instance : TFun Try.prog 54 := ⟨fun _ _ => by kernel_rfl⟩      -- routing/routingref02.Covers
instance : TFun Try.prog 55 := ⟨fun _ _ => by kernel_rfl⟩      -- routing/bits.Mask
instance : TFun Try.prog 56 := ⟨fun _ _ => by kernel_rfl⟩      -- routing/prefix.of
instance : TFun Try.prog 57 := ⟨fun _ _ => by kernel_rfl⟩      -- routing/routingref01.Low
instance : TFun Try.prog 58 := ⟨fun _ _ => by kernel_rfl⟩      -- routing/routingref01.At
instance : TFun Try.prog 59 := ⟨fun _ _ => by kernel_rfl⟩      -- routing/bits.clamp
end Go.Proofs.Ytphifkbeanneaaa
