/-
  Facts on the types and functions of this seat's translation, each closed and checked by the kernel: what the rules of the text V look up.
  No conditions. Written by a program of the prover's own.
-/
import Derived.Test.YtfakgiikobajnaaProg
import Derived.Test.YtfakgiikobajnaaVOps
namespace Go.Proofs.Ytfakgiikobajnaa
instance : TOne Try.prog 1 := ⟨fun _ => by kernel_rfl⟩
instance : TZero Try.prog 1 (.nilFunc) [.nilFunc] := ⟨by kernel_rfl, rfl⟩
instance : TSize Try.prog 1 1 8 := ⟨by kernel_rfl⟩
instance : TInt Try.prog 2 .i64 := ⟨by kernel_rfl⟩
instance : TOne Try.prog 2 := ⟨fun _ => by kernel_rfl⟩
instance : TZero Try.prog 2 (.int .i64 0) [.int .i64 0] := ⟨by kernel_rfl, rfl⟩
instance : TSize Try.prog 2 1 8 := ⟨by kernel_rfl⟩
instance : TInt Try.prog 3 .i64 := ⟨by kernel_rfl⟩
instance : TOne Try.prog 3 := ⟨fun _ => by kernel_rfl⟩
instance : TZero Try.prog 3 (.int .i64 0) [.int .i64 0] := ⟨by kernel_rfl, rfl⟩
instance : TSize Try.prog 3 1 8 := ⟨by kernel_rfl⟩
instance : TBool Try.prog 4 := ⟨by kernel_rfl⟩
instance : TOne Try.prog 4 := ⟨fun _ => by kernel_rfl⟩
instance : TZero Try.prog 4 (.bool false) [.bool false] := ⟨by kernel_rfl, rfl⟩
instance : TSize Try.prog 4 1 1 := ⟨by kernel_rfl⟩
instance : TInt Try.prog 5 .u8 := ⟨by kernel_rfl⟩
instance : TOne Try.prog 5 := ⟨fun _ => by kernel_rfl⟩
instance : TZero Try.prog 5 (.int .u8 0) [.int .u8 0] := ⟨by kernel_rfl, rfl⟩
instance : TSize Try.prog 5 1 1 := ⟨by kernel_rfl⟩
instance : TOne Try.prog 9 := ⟨fun _ => by kernel_rfl⟩
instance : TZero Try.prog 9 (.string ByteArray.empty) [.string ByteArray.empty] := ⟨by kernel_rfl, rfl⟩
instance : TSize Try.prog 9 1 16 := ⟨by kernel_rfl⟩
instance : TInt Try.prog 12 .u64 := ⟨by kernel_rfl⟩
instance : TOne Try.prog 12 := ⟨fun _ => by kernel_rfl⟩
instance : TZero Try.prog 12 (.int .u64 0) [.int .u64 0] := ⟨by kernel_rfl, rfl⟩
instance : TSize Try.prog 12 1 8 := ⟨by kernel_rfl⟩
instance : TAgg Try.prog 13 2 := ⟨fun _ => by kernel_rfl, by kernel_rfl⟩
instance : TZero Try.prog 13 (.agg #[.string ByteArray.empty, .int .u64 0]) [.string ByteArray.empty, .int .u64 0] := ⟨by kernel_rfl, rfl⟩
instance : TSize Try.prog 13 2 24 := ⟨by kernel_rfl⟩
instance : TField Try.prog 13 0 9 0 := ⟨fun _ _ => by kernel_rfl⟩
instance : TPart1 Try.prog 13 0 0 := ⟨fun _ _ => by kernel_rfl⟩
instance : TField Try.prog 13 1 12 1 := ⟨fun _ _ => by kernel_rfl⟩
instance : TPart1 Try.prog 13 1 1 := ⟨fun _ _ => by kernel_rfl⟩
instance : TBuild Try.prog 13 [(0, 1), (1, 1)] [.string ByteArray.empty, .int .u64 0] := ⟨fun _ => by kernel_rfl⟩
instance : TOne Try.prog 20 := ⟨fun _ => by kernel_rfl⟩
instance : TZero Try.prog 20 (.nilIface) [.nilIface] := ⟨by kernel_rfl, rfl⟩
instance : TSize Try.prog 20 1 16 := ⟨by kernel_rfl⟩
instance : TInt Try.prog 21 .i32 := ⟨by kernel_rfl⟩
instance : TOne Try.prog 21 := ⟨fun _ => by kernel_rfl⟩
instance : TZero Try.prog 21 (.int .i32 0) [.int .i32 0] := ⟨by kernel_rfl, rfl⟩
instance : TSize Try.prog 21 1 4 := ⟨by kernel_rfl⟩
instance : TInt Try.prog 22 .u32 := ⟨by kernel_rfl⟩
instance : TOne Try.prog 22 := ⟨fun _ => by kernel_rfl⟩
instance : TZero Try.prog 22 (.int .u32 0) [.int .u32 0] := ⟨by kernel_rfl, rfl⟩
instance : TSize Try.prog 22 1 4 := ⟨by kernel_rfl⟩
instance : TOne Try.prog 23 := ⟨fun _ => by kernel_rfl⟩
instance : TZero Try.prog 23 (.slice none 0 0) [.slice none 0 0] := ⟨by kernel_rfl, rfl⟩
instance : TSize Try.prog 23 1 24 := ⟨by kernel_rfl⟩
instance : TSlice Try.prog 23 31 := ⟨by kernel_rfl⟩
instance : TOne Try.prog 24 := ⟨fun _ => by kernel_rfl⟩
instance : TZero Try.prog 24 (.nilFunc) [.nilFunc] := ⟨by kernel_rfl, rfl⟩
instance : TSize Try.prog 24 1 8 := ⟨by kernel_rfl⟩
instance : TOne Try.prog 26 := ⟨fun _ => by kernel_rfl⟩
instance : TZero Try.prog 26 (.nilFunc) [.nilFunc] := ⟨by kernel_rfl, rfl⟩
instance : TSize Try.prog 26 1 8 := ⟨by kernel_rfl⟩
instance : TOne Try.prog 27 := ⟨fun _ => by kernel_rfl⟩
instance : TZero Try.prog 27 (.nilFunc) [.nilFunc] := ⟨by kernel_rfl, rfl⟩
instance : TSize Try.prog 27 1 8 := ⟨by kernel_rfl⟩
instance : TInt Try.prog 28 .u32 := ⟨by kernel_rfl⟩
instance : TOne Try.prog 28 := ⟨fun _ => by kernel_rfl⟩
instance : TZero Try.prog 28 (.int .u32 0) [.int .u32 0] := ⟨by kernel_rfl, rfl⟩
instance : TSize Try.prog 28 1 4 := ⟨by kernel_rfl⟩
instance : TOne Try.prog 29 := ⟨fun _ => by kernel_rfl⟩
instance : TZero Try.prog 29 (.slice none 0 0) [.slice none 0 0] := ⟨by kernel_rfl, rfl⟩
instance : TSize Try.prog 29 1 24 := ⟨by kernel_rfl⟩
instance : TSlice Try.prog 29 60 := ⟨by kernel_rfl⟩
instance : TAgg Try.prog 30 15 := ⟨fun _ => by kernel_rfl, by kernel_rfl⟩
instance : TZero Try.prog 30 (.agg #[.int .u32 0, .int .u32 0, .int .i64 0, .int .u32 0, .int .u32 0, .int .i64 0, .int .i64 0, .bool false, .int .i64 0, .slice none 0 0, .slice none 0 0, .bool false, .slice none 0 0, .slice none 0 0, .int .i64 0]) [.int .u32 0, .int .u32 0, .int .i64 0, .int .u32 0, .int .u32 0, .int .i64 0, .int .i64 0, .bool false, .int .i64 0, .slice none 0 0, .slice none 0 0, .bool false, .slice none 0 0, .slice none 0 0, .int .i64 0] := ⟨by kernel_rfl, rfl⟩
instance : TSize Try.prog 30 15 168 := ⟨by kernel_rfl⟩
instance : TField Try.prog 30 0 22 0 := ⟨fun _ _ => by kernel_rfl⟩
instance : TPart1 Try.prog 30 0 0 := ⟨fun _ _ => by kernel_rfl⟩
instance : TField Try.prog 30 1 28 1 := ⟨fun _ _ => by kernel_rfl⟩
instance : TPart1 Try.prog 30 1 1 := ⟨fun _ _ => by kernel_rfl⟩
instance : TField Try.prog 30 2 3 2 := ⟨fun _ _ => by kernel_rfl⟩
instance : TPart1 Try.prog 30 2 2 := ⟨fun _ _ => by kernel_rfl⟩
instance : TField Try.prog 30 3 22 3 := ⟨fun _ _ => by kernel_rfl⟩
instance : TPart1 Try.prog 30 3 3 := ⟨fun _ _ => by kernel_rfl⟩
instance : TField Try.prog 30 4 22 4 := ⟨fun _ _ => by kernel_rfl⟩
instance : TPart1 Try.prog 30 4 4 := ⟨fun _ _ => by kernel_rfl⟩
instance : TField Try.prog 30 5 3 5 := ⟨fun _ _ => by kernel_rfl⟩
instance : TPart1 Try.prog 30 5 5 := ⟨fun _ _ => by kernel_rfl⟩
instance : TField Try.prog 30 6 3 6 := ⟨fun _ _ => by kernel_rfl⟩
instance : TPart1 Try.prog 30 6 6 := ⟨fun _ _ => by kernel_rfl⟩
instance : TField Try.prog 30 7 4 7 := ⟨fun _ _ => by kernel_rfl⟩
instance : TPart1 Try.prog 30 7 7 := ⟨fun _ _ => by kernel_rfl⟩
instance : TField Try.prog 30 8 3 8 := ⟨fun _ _ => by kernel_rfl⟩
instance : TPart1 Try.prog 30 8 8 := ⟨fun _ _ => by kernel_rfl⟩
instance : TField Try.prog 30 9 29 9 := ⟨fun _ _ => by kernel_rfl⟩
instance : TPart1 Try.prog 30 9 9 := ⟨fun _ _ => by kernel_rfl⟩
instance : TField Try.prog 30 10 29 10 := ⟨fun _ _ => by kernel_rfl⟩
instance : TPart1 Try.prog 30 10 10 := ⟨fun _ _ => by kernel_rfl⟩
instance : TField Try.prog 30 11 4 11 := ⟨fun _ _ => by kernel_rfl⟩
instance : TPart1 Try.prog 30 11 11 := ⟨fun _ _ => by kernel_rfl⟩
instance : TField Try.prog 30 12 29 12 := ⟨fun _ _ => by kernel_rfl⟩
instance : TPart1 Try.prog 30 12 12 := ⟨fun _ _ => by kernel_rfl⟩
instance : TField Try.prog 30 13 29 13 := ⟨fun _ _ => by kernel_rfl⟩
instance : TPart1 Try.prog 30 13 13 := ⟨fun _ _ => by kernel_rfl⟩
instance : TField Try.prog 30 14 3 14 := ⟨fun _ _ => by kernel_rfl⟩
instance : TPart1 Try.prog 30 14 14 := ⟨fun _ _ => by kernel_rfl⟩
instance : TBuild Try.prog 30 [(0, 1), (1, 1), (2, 1), (3, 1), (4, 1), (5, 1), (6, 1), (7, 1), (8, 1), (9, 1), (10, 1), (11, 1), (12, 1), (13, 1), (14, 1)] [.int .u32 0, .int .u32 0, .int .i64 0, .int .u32 0, .int .u32 0, .int .i64 0, .int .i64 0, .bool false, .int .i64 0, .slice none 0 0, .slice none 0 0, .bool false, .slice none 0 0, .slice none 0 0, .int .i64 0] := ⟨fun _ => by kernel_rfl⟩
instance : TAgg Try.prog 31 15 := ⟨fun _ => by kernel_rfl, by kernel_rfl⟩
instance : TZero Try.prog 31 (.agg #[.int .u32 0, .int .u32 0, .int .i64 0, .int .u32 0, .int .u32 0, .int .i64 0, .int .i64 0, .bool false, .int .i64 0, .slice none 0 0, .slice none 0 0, .bool false, .slice none 0 0, .slice none 0 0, .int .i64 0]) [.int .u32 0, .int .u32 0, .int .i64 0, .int .u32 0, .int .u32 0, .int .i64 0, .int .i64 0, .bool false, .int .i64 0, .slice none 0 0, .slice none 0 0, .bool false, .slice none 0 0, .slice none 0 0, .int .i64 0] := ⟨by kernel_rfl, rfl⟩
instance : TSize Try.prog 31 15 168 := ⟨by kernel_rfl⟩
instance : TField Try.prog 31 0 22 0 := ⟨fun _ _ => by kernel_rfl⟩
instance : TPart1 Try.prog 31 0 0 := ⟨fun _ _ => by kernel_rfl⟩
instance : TField Try.prog 31 1 28 1 := ⟨fun _ _ => by kernel_rfl⟩
instance : TPart1 Try.prog 31 1 1 := ⟨fun _ _ => by kernel_rfl⟩
instance : TField Try.prog 31 2 3 2 := ⟨fun _ _ => by kernel_rfl⟩
instance : TPart1 Try.prog 31 2 2 := ⟨fun _ _ => by kernel_rfl⟩
instance : TField Try.prog 31 3 22 3 := ⟨fun _ _ => by kernel_rfl⟩
instance : TPart1 Try.prog 31 3 3 := ⟨fun _ _ => by kernel_rfl⟩
instance : TField Try.prog 31 4 22 4 := ⟨fun _ _ => by kernel_rfl⟩
instance : TPart1 Try.prog 31 4 4 := ⟨fun _ _ => by kernel_rfl⟩
instance : TField Try.prog 31 5 3 5 := ⟨fun _ _ => by kernel_rfl⟩
instance : TPart1 Try.prog 31 5 5 := ⟨fun _ _ => by kernel_rfl⟩
instance : TField Try.prog 31 6 3 6 := ⟨fun _ _ => by kernel_rfl⟩
instance : TPart1 Try.prog 31 6 6 := ⟨fun _ _ => by kernel_rfl⟩
instance : TField Try.prog 31 7 4 7 := ⟨fun _ _ => by kernel_rfl⟩
instance : TPart1 Try.prog 31 7 7 := ⟨fun _ _ => by kernel_rfl⟩
instance : TField Try.prog 31 8 3 8 := ⟨fun _ _ => by kernel_rfl⟩
instance : TPart1 Try.prog 31 8 8 := ⟨fun _ _ => by kernel_rfl⟩
instance : TField Try.prog 31 9 29 9 := ⟨fun _ _ => by kernel_rfl⟩
instance : TPart1 Try.prog 31 9 9 := ⟨fun _ _ => by kernel_rfl⟩
instance : TField Try.prog 31 10 29 10 := ⟨fun _ _ => by kernel_rfl⟩
instance : TPart1 Try.prog 31 10 10 := ⟨fun _ _ => by kernel_rfl⟩
instance : TField Try.prog 31 11 4 11 := ⟨fun _ _ => by kernel_rfl⟩
instance : TPart1 Try.prog 31 11 11 := ⟨fun _ _ => by kernel_rfl⟩
instance : TField Try.prog 31 12 29 12 := ⟨fun _ _ => by kernel_rfl⟩
instance : TPart1 Try.prog 31 12 12 := ⟨fun _ _ => by kernel_rfl⟩
instance : TField Try.prog 31 13 29 13 := ⟨fun _ _ => by kernel_rfl⟩
instance : TPart1 Try.prog 31 13 13 := ⟨fun _ _ => by kernel_rfl⟩
instance : TField Try.prog 31 14 3 14 := ⟨fun _ _ => by kernel_rfl⟩
instance : TPart1 Try.prog 31 14 14 := ⟨fun _ _ => by kernel_rfl⟩
instance : TBuild Try.prog 31 [(0, 1), (1, 1), (2, 1), (3, 1), (4, 1), (5, 1), (6, 1), (7, 1), (8, 1), (9, 1), (10, 1), (11, 1), (12, 1), (13, 1), (14, 1)] [.int .u32 0, .int .u32 0, .int .i64 0, .int .u32 0, .int .u32 0, .int .i64 0, .int .i64 0, .bool false, .int .i64 0, .slice none 0 0, .slice none 0 0, .bool false, .slice none 0 0, .slice none 0 0, .int .i64 0] := ⟨fun _ => by kernel_rfl⟩
instance : TOne Try.prog 32 := ⟨fun _ => by kernel_rfl⟩
instance : TZero Try.prog 32 (.nilFunc) [.nilFunc] := ⟨by kernel_rfl, rfl⟩
instance : TSize Try.prog 32 1 8 := ⟨by kernel_rfl⟩
instance : TOne Try.prog 33 := ⟨fun _ => by kernel_rfl⟩
instance : TZero Try.prog 33 (.nilFunc) [.nilFunc] := ⟨by kernel_rfl, rfl⟩
instance : TSize Try.prog 33 1 8 := ⟨by kernel_rfl⟩
instance : TAgg Try.prog 34 2 := ⟨fun _ => by kernel_rfl, by kernel_rfl⟩
instance : TZero Try.prog 34 (.agg #[.int .u32 0, .int .i64 0]) [.int .u32 0, .int .i64 0] := ⟨by kernel_rfl, rfl⟩
instance : TSize Try.prog 34 2 16 := ⟨by kernel_rfl⟩
instance : TField Try.prog 34 0 28 0 := ⟨fun _ _ => by kernel_rfl⟩
instance : TPart1 Try.prog 34 0 0 := ⟨fun _ _ => by kernel_rfl⟩
instance : TField Try.prog 34 1 3 1 := ⟨fun _ _ => by kernel_rfl⟩
instance : TPart1 Try.prog 34 1 1 := ⟨fun _ _ => by kernel_rfl⟩
instance : TBuild Try.prog 34 [(0, 1), (1, 1)] [.int .u32 0, .int .i64 0] := ⟨fun _ => by kernel_rfl⟩
instance : TAgg Try.prog 35 2 := ⟨fun _ => by kernel_rfl, by kernel_rfl⟩
instance : TZero Try.prog 35 (.agg #[.int .u32 0, .int .i64 0]) [.int .u32 0, .int .i64 0] := ⟨by kernel_rfl, rfl⟩
instance : TSize Try.prog 35 2 16 := ⟨by kernel_rfl⟩
instance : TField Try.prog 35 0 28 0 := ⟨fun _ _ => by kernel_rfl⟩
instance : TPart1 Try.prog 35 0 0 := ⟨fun _ _ => by kernel_rfl⟩
instance : TField Try.prog 35 1 3 1 := ⟨fun _ _ => by kernel_rfl⟩
instance : TPart1 Try.prog 35 1 1 := ⟨fun _ _ => by kernel_rfl⟩
instance : TBuild Try.prog 35 [(0, 1), (1, 1)] [.int .u32 0, .int .i64 0] := ⟨fun _ => by kernel_rfl⟩
instance : TAgg Try.prog 36 9 := ⟨fun _ => by kernel_rfl, by kernel_rfl⟩
instance : TZero Try.prog 36 (.agg #[.int .i64 0, .int .u32 0, .int .i64 0, .int .u32 0, .int .u32 0, .int .i64 0, .int .i64 0, .int .i64 0, .int .i64 0]) [.int .i64 0, .int .u32 0, .int .i64 0, .int .u32 0, .int .u32 0, .int .i64 0, .int .i64 0, .int .i64 0, .int .i64 0] := ⟨by kernel_rfl, rfl⟩
instance : TSize Try.prog 36 9 64 := ⟨by kernel_rfl⟩
instance : TField Try.prog 36 0 3 0 := ⟨fun _ _ => by kernel_rfl⟩
instance : TPart1 Try.prog 36 0 0 := ⟨fun _ _ => by kernel_rfl⟩
instance : TField Try.prog 36 1 35 1 := ⟨fun _ _ => by kernel_rfl⟩
instance : TPartN Try.prog 36 1 1 2 := ⟨fun _ _ => by kernel_rfl⟩
instance : TField Try.prog 36 2 28 3 := ⟨fun _ _ => by kernel_rfl⟩
instance : TPart1 Try.prog 36 2 3 := ⟨fun _ _ => by kernel_rfl⟩
instance : TField Try.prog 36 3 22 4 := ⟨fun _ _ => by kernel_rfl⟩
instance : TPart1 Try.prog 36 3 4 := ⟨fun _ _ => by kernel_rfl⟩
instance : TField Try.prog 36 4 3 5 := ⟨fun _ _ => by kernel_rfl⟩
instance : TPart1 Try.prog 36 4 5 := ⟨fun _ _ => by kernel_rfl⟩
instance : TField Try.prog 36 5 3 6 := ⟨fun _ _ => by kernel_rfl⟩
instance : TPart1 Try.prog 36 5 6 := ⟨fun _ _ => by kernel_rfl⟩
instance : TField Try.prog 36 6 3 7 := ⟨fun _ _ => by kernel_rfl⟩
instance : TPart1 Try.prog 36 6 7 := ⟨fun _ _ => by kernel_rfl⟩
instance : TField Try.prog 36 7 3 8 := ⟨fun _ _ => by kernel_rfl⟩
instance : TPart1 Try.prog 36 7 8 := ⟨fun _ _ => by kernel_rfl⟩
instance : TBuild Try.prog 36 [(0, 1), (1, 2), (3, 1), (4, 1), (5, 1), (6, 1), (7, 1), (8, 1)] [.int .i64 0, .int .u32 0, .int .i64 0, .int .u32 0, .int .u32 0, .int .i64 0, .int .i64 0, .int .i64 0, .int .i64 0] := ⟨fun _ => by kernel_rfl⟩
instance : TAgg Try.prog 37 9 := ⟨fun _ => by kernel_rfl, by kernel_rfl⟩
instance : TZero Try.prog 37 (.agg #[.int .i64 0, .int .u32 0, .int .i64 0, .int .u32 0, .int .u32 0, .int .i64 0, .int .i64 0, .int .i64 0, .int .i64 0]) [.int .i64 0, .int .u32 0, .int .i64 0, .int .u32 0, .int .u32 0, .int .i64 0, .int .i64 0, .int .i64 0, .int .i64 0] := ⟨by kernel_rfl, rfl⟩
instance : TSize Try.prog 37 9 64 := ⟨by kernel_rfl⟩
instance : TField Try.prog 37 0 3 0 := ⟨fun _ _ => by kernel_rfl⟩
instance : TPart1 Try.prog 37 0 0 := ⟨fun _ _ => by kernel_rfl⟩
instance : TField Try.prog 37 1 35 1 := ⟨fun _ _ => by kernel_rfl⟩
instance : TPartN Try.prog 37 1 1 2 := ⟨fun _ _ => by kernel_rfl⟩
instance : TField Try.prog 37 2 28 3 := ⟨fun _ _ => by kernel_rfl⟩
instance : TPart1 Try.prog 37 2 3 := ⟨fun _ _ => by kernel_rfl⟩
instance : TField Try.prog 37 3 22 4 := ⟨fun _ _ => by kernel_rfl⟩
instance : TPart1 Try.prog 37 3 4 := ⟨fun _ _ => by kernel_rfl⟩
instance : TField Try.prog 37 4 3 5 := ⟨fun _ _ => by kernel_rfl⟩
instance : TPart1 Try.prog 37 4 5 := ⟨fun _ _ => by kernel_rfl⟩
instance : TField Try.prog 37 5 3 6 := ⟨fun _ _ => by kernel_rfl⟩
instance : TPart1 Try.prog 37 5 6 := ⟨fun _ _ => by kernel_rfl⟩
instance : TField Try.prog 37 6 3 7 := ⟨fun _ _ => by kernel_rfl⟩
instance : TPart1 Try.prog 37 6 7 := ⟨fun _ _ => by kernel_rfl⟩
instance : TField Try.prog 37 7 3 8 := ⟨fun _ _ => by kernel_rfl⟩
instance : TPart1 Try.prog 37 7 8 := ⟨fun _ _ => by kernel_rfl⟩
instance : TBuild Try.prog 37 [(0, 1), (1, 2), (3, 1), (4, 1), (5, 1), (6, 1), (7, 1), (8, 1)] [.int .i64 0, .int .u32 0, .int .i64 0, .int .u32 0, .int .u32 0, .int .i64 0, .int .i64 0, .int .i64 0, .int .i64 0] := ⟨fun _ => by kernel_rfl⟩
instance : TAgg Try.prog 38 15 := ⟨fun _ => by kernel_rfl, by kernel_rfl⟩
instance : TZero Try.prog 38 (.agg #[.int .i64 0, .int .u32 0, .int .i64 0, .int .u32 0, .int .u32 0, .int .i64 0, .int .i64 0, .int .i64 0, .int .i64 0, .bool false, .int .u32 0, .int .u32 0, .int .i64 0, .int .i64 0, .slice none 0 0]) [.int .i64 0, .int .u32 0, .int .i64 0, .int .u32 0, .int .u32 0, .int .i64 0, .int .i64 0, .int .i64 0, .int .i64 0, .bool false, .int .u32 0, .int .u32 0, .int .i64 0, .int .i64 0, .slice none 0 0] := ⟨by kernel_rfl, rfl⟩
instance : TSize Try.prog 38 15 120 := ⟨by kernel_rfl⟩
instance : TField Try.prog 38 0 37 0 := ⟨fun _ _ => by kernel_rfl⟩
instance : TPartN Try.prog 38 0 0 9 := ⟨fun _ _ => by kernel_rfl⟩
instance : TField Try.prog 38 1 4 9 := ⟨fun _ _ => by kernel_rfl⟩
instance : TPart1 Try.prog 38 1 9 := ⟨fun _ _ => by kernel_rfl⟩
instance : TField Try.prog 38 2 22 10 := ⟨fun _ _ => by kernel_rfl⟩
instance : TPart1 Try.prog 38 2 10 := ⟨fun _ _ => by kernel_rfl⟩
instance : TField Try.prog 38 3 22 11 := ⟨fun _ _ => by kernel_rfl⟩
instance : TPart1 Try.prog 38 3 11 := ⟨fun _ _ => by kernel_rfl⟩
instance : TField Try.prog 38 4 3 12 := ⟨fun _ _ => by kernel_rfl⟩
instance : TPart1 Try.prog 38 4 12 := ⟨fun _ _ => by kernel_rfl⟩
instance : TField Try.prog 38 5 3 13 := ⟨fun _ _ => by kernel_rfl⟩
instance : TPart1 Try.prog 38 5 13 := ⟨fun _ _ => by kernel_rfl⟩
instance : TField Try.prog 38 6 23 14 := ⟨fun _ _ => by kernel_rfl⟩
instance : TPart1 Try.prog 38 6 14 := ⟨fun _ _ => by kernel_rfl⟩
instance : TBuild Try.prog 38 [(0, 9), (9, 1), (10, 1), (11, 1), (12, 1), (13, 1), (14, 1)] [.int .i64 0, .int .u32 0, .int .i64 0, .int .u32 0, .int .u32 0, .int .i64 0, .int .i64 0, .int .i64 0, .int .i64 0, .bool false, .int .u32 0, .int .u32 0, .int .i64 0, .int .i64 0, .slice none 0 0] := ⟨fun _ => by kernel_rfl⟩
instance : TAgg Try.prog 39 15 := ⟨fun _ => by kernel_rfl, by kernel_rfl⟩
instance : TZero Try.prog 39 (.agg #[.int .i64 0, .int .u32 0, .int .i64 0, .int .u32 0, .int .u32 0, .int .i64 0, .int .i64 0, .int .i64 0, .int .i64 0, .bool false, .int .u32 0, .int .u32 0, .int .i64 0, .int .i64 0, .slice none 0 0]) [.int .i64 0, .int .u32 0, .int .i64 0, .int .u32 0, .int .u32 0, .int .i64 0, .int .i64 0, .int .i64 0, .int .i64 0, .bool false, .int .u32 0, .int .u32 0, .int .i64 0, .int .i64 0, .slice none 0 0] := ⟨by kernel_rfl, rfl⟩
instance : TSize Try.prog 39 15 120 := ⟨by kernel_rfl⟩
instance : TField Try.prog 39 0 37 0 := ⟨fun _ _ => by kernel_rfl⟩
instance : TPartN Try.prog 39 0 0 9 := ⟨fun _ _ => by kernel_rfl⟩
instance : TField Try.prog 39 1 4 9 := ⟨fun _ _ => by kernel_rfl⟩
instance : TPart1 Try.prog 39 1 9 := ⟨fun _ _ => by kernel_rfl⟩
instance : TField Try.prog 39 2 22 10 := ⟨fun _ _ => by kernel_rfl⟩
instance : TPart1 Try.prog 39 2 10 := ⟨fun _ _ => by kernel_rfl⟩
instance : TField Try.prog 39 3 22 11 := ⟨fun _ _ => by kernel_rfl⟩
instance : TPart1 Try.prog 39 3 11 := ⟨fun _ _ => by kernel_rfl⟩
instance : TField Try.prog 39 4 3 12 := ⟨fun _ _ => by kernel_rfl⟩
instance : TPart1 Try.prog 39 4 12 := ⟨fun _ _ => by kernel_rfl⟩
instance : TField Try.prog 39 5 3 13 := ⟨fun _ _ => by kernel_rfl⟩
instance : TPart1 Try.prog 39 5 13 := ⟨fun _ _ => by kernel_rfl⟩
instance : TField Try.prog 39 6 23 14 := ⟨fun _ _ => by kernel_rfl⟩
instance : TPart1 Try.prog 39 6 14 := ⟨fun _ _ => by kernel_rfl⟩
instance : TBuild Try.prog 39 [(0, 9), (9, 1), (10, 1), (11, 1), (12, 1), (13, 1), (14, 1)] [.int .i64 0, .int .u32 0, .int .i64 0, .int .u32 0, .int .u32 0, .int .i64 0, .int .i64 0, .int .i64 0, .int .i64 0, .bool false, .int .u32 0, .int .u32 0, .int .i64 0, .int .i64 0, .slice none 0 0] := ⟨fun _ => by kernel_rfl⟩
instance : TOne Try.prog 40 := ⟨fun _ => by kernel_rfl⟩
instance : TZero Try.prog 40 (.nilFunc) [.nilFunc] := ⟨by kernel_rfl, rfl⟩
instance : TSize Try.prog 40 1 8 := ⟨by kernel_rfl⟩
instance : TOne Try.prog 41 := ⟨fun _ => by kernel_rfl⟩
instance : TZero Try.prog 41 (.nilFunc) [.nilFunc] := ⟨by kernel_rfl, rfl⟩
instance : TSize Try.prog 41 1 8 := ⟨by kernel_rfl⟩
instance : TOne Try.prog 42 := ⟨fun _ => by kernel_rfl⟩
instance : TZero Try.prog 42 (.nilFunc) [.nilFunc] := ⟨by kernel_rfl, rfl⟩
instance : TSize Try.prog 42 1 8 := ⟨by kernel_rfl⟩
instance : TOne Try.prog 43 := ⟨fun _ => by kernel_rfl⟩
instance : TZero Try.prog 43 (.nilFunc) [.nilFunc] := ⟨by kernel_rfl, rfl⟩
instance : TSize Try.prog 43 1 8 := ⟨by kernel_rfl⟩
instance : TOne Try.prog 44 := ⟨fun _ => by kernel_rfl⟩
instance : TZero Try.prog 44 (.nilFunc) [.nilFunc] := ⟨by kernel_rfl, rfl⟩
instance : TSize Try.prog 44 1 8 := ⟨by kernel_rfl⟩
instance : TOne Try.prog 45 := ⟨fun _ => by kernel_rfl⟩
instance : TZero Try.prog 45 (.slice none 0 0) [.slice none 0 0] := ⟨by kernel_rfl, rfl⟩
instance : TSize Try.prog 45 1 24 := ⟨by kernel_rfl⟩
instance : TSlice Try.prog 45 49 := ⟨by kernel_rfl⟩
instance : TOne Try.prog 46 := ⟨fun _ => by kernel_rfl⟩
instance : TZero Try.prog 46 (.nilFunc) [.nilFunc] := ⟨by kernel_rfl, rfl⟩
instance : TSize Try.prog 46 1 8 := ⟨by kernel_rfl⟩
instance : TOne Try.prog 47 := ⟨fun _ => by kernel_rfl⟩
instance : TZero Try.prog 47 (.nilFunc) [.nilFunc] := ⟨by kernel_rfl, rfl⟩
instance : TSize Try.prog 47 1 8 := ⟨by kernel_rfl⟩
instance : TOne Try.prog 48 := ⟨fun _ => by kernel_rfl⟩
instance : TZero Try.prog 48 (.nilFunc) [.nilFunc] := ⟨by kernel_rfl, rfl⟩
instance : TSize Try.prog 48 1 8 := ⟨by kernel_rfl⟩
instance : TAgg Try.prog 49 15 := ⟨fun _ => by kernel_rfl, by kernel_rfl⟩
instance : TZero Try.prog 49 (.agg #[.int .u32 0, .int .u32 0, .int .i64 0, .int .u32 0, .int .u32 0, .int .i64 0, .int .i64 0, .bool false, .int .i64 0, .slice none 0 0, .slice none 0 0, .bool false, .slice none 0 0, .slice none 0 0, .int .i64 0]) [.int .u32 0, .int .u32 0, .int .i64 0, .int .u32 0, .int .u32 0, .int .i64 0, .int .i64 0, .bool false, .int .i64 0, .slice none 0 0, .slice none 0 0, .bool false, .slice none 0 0, .slice none 0 0, .int .i64 0] := ⟨by kernel_rfl, rfl⟩
instance : TSize Try.prog 49 15 168 := ⟨by kernel_rfl⟩
instance : TField Try.prog 49 0 22 0 := ⟨fun _ _ => by kernel_rfl⟩
instance : TPart1 Try.prog 49 0 0 := ⟨fun _ _ => by kernel_rfl⟩
instance : TField Try.prog 49 1 28 1 := ⟨fun _ _ => by kernel_rfl⟩
instance : TPart1 Try.prog 49 1 1 := ⟨fun _ _ => by kernel_rfl⟩
instance : TField Try.prog 49 2 3 2 := ⟨fun _ _ => by kernel_rfl⟩
instance : TPart1 Try.prog 49 2 2 := ⟨fun _ _ => by kernel_rfl⟩
instance : TField Try.prog 49 3 22 3 := ⟨fun _ _ => by kernel_rfl⟩
instance : TPart1 Try.prog 49 3 3 := ⟨fun _ _ => by kernel_rfl⟩
instance : TField Try.prog 49 4 22 4 := ⟨fun _ _ => by kernel_rfl⟩
instance : TPart1 Try.prog 49 4 4 := ⟨fun _ _ => by kernel_rfl⟩
instance : TField Try.prog 49 5 3 5 := ⟨fun _ _ => by kernel_rfl⟩
instance : TPart1 Try.prog 49 5 5 := ⟨fun _ _ => by kernel_rfl⟩
instance : TField Try.prog 49 6 3 6 := ⟨fun _ _ => by kernel_rfl⟩
instance : TPart1 Try.prog 49 6 6 := ⟨fun _ _ => by kernel_rfl⟩
instance : TField Try.prog 49 7 4 7 := ⟨fun _ _ => by kernel_rfl⟩
instance : TPart1 Try.prog 49 7 7 := ⟨fun _ _ => by kernel_rfl⟩
instance : TField Try.prog 49 8 3 8 := ⟨fun _ _ => by kernel_rfl⟩
instance : TPart1 Try.prog 49 8 8 := ⟨fun _ _ => by kernel_rfl⟩
instance : TField Try.prog 49 9 29 9 := ⟨fun _ _ => by kernel_rfl⟩
instance : TPart1 Try.prog 49 9 9 := ⟨fun _ _ => by kernel_rfl⟩
instance : TField Try.prog 49 10 29 10 := ⟨fun _ _ => by kernel_rfl⟩
instance : TPart1 Try.prog 49 10 10 := ⟨fun _ _ => by kernel_rfl⟩
instance : TField Try.prog 49 11 4 11 := ⟨fun _ _ => by kernel_rfl⟩
instance : TPart1 Try.prog 49 11 11 := ⟨fun _ _ => by kernel_rfl⟩
instance : TField Try.prog 49 12 29 12 := ⟨fun _ _ => by kernel_rfl⟩
instance : TPart1 Try.prog 49 12 12 := ⟨fun _ _ => by kernel_rfl⟩
instance : TField Try.prog 49 13 29 13 := ⟨fun _ _ => by kernel_rfl⟩
instance : TPart1 Try.prog 49 13 13 := ⟨fun _ _ => by kernel_rfl⟩
instance : TField Try.prog 49 14 3 14 := ⟨fun _ _ => by kernel_rfl⟩
instance : TPart1 Try.prog 49 14 14 := ⟨fun _ _ => by kernel_rfl⟩
instance : TBuild Try.prog 49 [(0, 1), (1, 1), (2, 1), (3, 1), (4, 1), (5, 1), (6, 1), (7, 1), (8, 1), (9, 1), (10, 1), (11, 1), (12, 1), (13, 1), (14, 1)] [.int .u32 0, .int .u32 0, .int .i64 0, .int .u32 0, .int .u32 0, .int .i64 0, .int .i64 0, .bool false, .int .i64 0, .slice none 0 0, .slice none 0 0, .bool false, .slice none 0 0, .slice none 0 0, .int .i64 0] := ⟨fun _ => by kernel_rfl⟩
instance : TOne Try.prog 50 := ⟨fun _ => by kernel_rfl⟩
instance : TZero Try.prog 50 (.nilFunc) [.nilFunc] := ⟨by kernel_rfl, rfl⟩
instance : TSize Try.prog 50 1 8 := ⟨by kernel_rfl⟩
instance : TOne Try.prog 51 := ⟨fun _ => by kernel_rfl⟩
instance : TZero Try.prog 51 (.nilFunc) [.nilFunc] := ⟨by kernel_rfl, rfl⟩
instance : TSize Try.prog 51 1 8 := ⟨by kernel_rfl⟩
instance : TOne Try.prog 52 := ⟨fun _ => by kernel_rfl⟩
instance : TZero Try.prog 52 (.nilFunc) [.nilFunc] := ⟨by kernel_rfl, rfl⟩
instance : TSize Try.prog 52 1 8 := ⟨by kernel_rfl⟩
instance : TOne Try.prog 53 := ⟨fun _ => by kernel_rfl⟩
instance : TZero Try.prog 53 (.nilFunc) [.nilFunc] := ⟨by kernel_rfl, rfl⟩
instance : TSize Try.prog 53 1 8 := ⟨by kernel_rfl⟩
instance : TOne Try.prog 54 := ⟨fun _ => by kernel_rfl⟩
instance : TZero Try.prog 54 (.nilFunc) [.nilFunc] := ⟨by kernel_rfl, rfl⟩
instance : TSize Try.prog 54 1 8 := ⟨by kernel_rfl⟩
instance : TOne Try.prog 55 := ⟨fun _ => by kernel_rfl⟩
instance : TZero Try.prog 55 (.nilFunc) [.nilFunc] := ⟨by kernel_rfl, rfl⟩
instance : TSize Try.prog 55 1 8 := ⟨by kernel_rfl⟩
instance : TOne Try.prog 56 := ⟨fun _ => by kernel_rfl⟩
instance : TZero Try.prog 56 (.nilFunc) [.nilFunc] := ⟨by kernel_rfl, rfl⟩
instance : TSize Try.prog 56 1 8 := ⟨by kernel_rfl⟩
instance : TOne Try.prog 57 := ⟨fun _ => by kernel_rfl⟩
instance : TZero Try.prog 57 (.pointer none) [.pointer none] := ⟨by kernel_rfl, rfl⟩
instance : TSize Try.prog 57 1 8 := ⟨by kernel_rfl⟩
instance : TPtr Try.prog 57 31 := ⟨by kernel_rfl⟩
instance : TOne Try.prog 58 := ⟨fun _ => by kernel_rfl⟩
instance : TZero Try.prog 58 (.nilFunc) [.nilFunc] := ⟨by kernel_rfl, rfl⟩
instance : TSize Try.prog 58 1 8 := ⟨by kernel_rfl⟩
instance : TAgg Try.prog 59 7 := ⟨fun _ => by kernel_rfl, by kernel_rfl⟩
instance : TZero Try.prog 59 (.agg #[.int .i64 0, .int .u32 0, .int .i64 0, .int .u32 0, .int .i64 0, .int .i64 0, .int .i64 0]) [.int .i64 0, .int .u32 0, .int .i64 0, .int .u32 0, .int .i64 0, .int .i64 0, .int .i64 0] := ⟨by kernel_rfl, rfl⟩
instance : TSize Try.prog 59 7 56 := ⟨by kernel_rfl⟩
instance : TField Try.prog 59 0 3 0 := ⟨fun _ _ => by kernel_rfl⟩
instance : TPart1 Try.prog 59 0 0 := ⟨fun _ _ => by kernel_rfl⟩
instance : TField Try.prog 59 1 22 1 := ⟨fun _ _ => by kernel_rfl⟩
instance : TPart1 Try.prog 59 1 1 := ⟨fun _ _ => by kernel_rfl⟩
instance : TField Try.prog 59 2 3 2 := ⟨fun _ _ => by kernel_rfl⟩
instance : TPart1 Try.prog 59 2 2 := ⟨fun _ _ => by kernel_rfl⟩
instance : TField Try.prog 59 3 22 3 := ⟨fun _ _ => by kernel_rfl⟩
instance : TPart1 Try.prog 59 3 3 := ⟨fun _ _ => by kernel_rfl⟩
instance : TField Try.prog 59 4 3 4 := ⟨fun _ _ => by kernel_rfl⟩
instance : TPart1 Try.prog 59 4 4 := ⟨fun _ _ => by kernel_rfl⟩
instance : TField Try.prog 59 5 3 5 := ⟨fun _ _ => by kernel_rfl⟩
instance : TPart1 Try.prog 59 5 5 := ⟨fun _ _ => by kernel_rfl⟩
instance : TField Try.prog 59 6 3 6 := ⟨fun _ _ => by kernel_rfl⟩
instance : TPart1 Try.prog 59 6 6 := ⟨fun _ _ => by kernel_rfl⟩
instance : TBuild Try.prog 59 [(0, 1), (1, 1), (2, 1), (3, 1), (4, 1), (5, 1), (6, 1)] [.int .i64 0, .int .u32 0, .int .i64 0, .int .u32 0, .int .i64 0, .int .i64 0, .int .i64 0] := ⟨fun _ => by kernel_rfl⟩
instance : TAgg Try.prog 60 7 := ⟨fun _ => by kernel_rfl, by kernel_rfl⟩
instance : TZero Try.prog 60 (.agg #[.int .i64 0, .int .u32 0, .int .i64 0, .int .u32 0, .int .i64 0, .int .i64 0, .int .i64 0]) [.int .i64 0, .int .u32 0, .int .i64 0, .int .u32 0, .int .i64 0, .int .i64 0, .int .i64 0] := ⟨by kernel_rfl, rfl⟩
instance : TSize Try.prog 60 7 56 := ⟨by kernel_rfl⟩
instance : TField Try.prog 60 0 3 0 := ⟨fun _ _ => by kernel_rfl⟩
instance : TPart1 Try.prog 60 0 0 := ⟨fun _ _ => by kernel_rfl⟩
instance : TField Try.prog 60 1 22 1 := ⟨fun _ _ => by kernel_rfl⟩
instance : TPart1 Try.prog 60 1 1 := ⟨fun _ _ => by kernel_rfl⟩
instance : TField Try.prog 60 2 3 2 := ⟨fun _ _ => by kernel_rfl⟩
instance : TPart1 Try.prog 60 2 2 := ⟨fun _ _ => by kernel_rfl⟩
instance : TField Try.prog 60 3 22 3 := ⟨fun _ _ => by kernel_rfl⟩
instance : TPart1 Try.prog 60 3 3 := ⟨fun _ _ => by kernel_rfl⟩
instance : TField Try.prog 60 4 3 4 := ⟨fun _ _ => by kernel_rfl⟩
instance : TPart1 Try.prog 60 4 4 := ⟨fun _ _ => by kernel_rfl⟩
instance : TField Try.prog 60 5 3 5 := ⟨fun _ _ => by kernel_rfl⟩
instance : TPart1 Try.prog 60 5 5 := ⟨fun _ _ => by kernel_rfl⟩
instance : TField Try.prog 60 6 3 6 := ⟨fun _ _ => by kernel_rfl⟩
instance : TPart1 Try.prog 60 6 6 := ⟨fun _ _ => by kernel_rfl⟩
instance : TBuild Try.prog 60 [(0, 1), (1, 1), (2, 1), (3, 1), (4, 1), (5, 1), (6, 1)] [.int .i64 0, .int .u32 0, .int .i64 0, .int .u32 0, .int .i64 0, .int .i64 0, .int .i64 0] := ⟨fun _ => by kernel_rfl⟩
instance : TOne Try.prog 61 := ⟨fun _ => by kernel_rfl⟩
instance : TZero Try.prog 61 (.map none) [.map none] := ⟨by kernel_rfl, rfl⟩
instance : TSize Try.prog 61 1 8 := ⟨by kernel_rfl⟩
instance : TMap Try.prog 61 22 4 := ⟨by kernel_rfl⟩
instance : TOne Try.prog 63 := ⟨fun _ => by kernel_rfl⟩
instance : TZero Try.prog 63 (.nilFunc) [.nilFunc] := ⟨by kernel_rfl, rfl⟩
instance : TSize Try.prog 63 1 8 := ⟨by kernel_rfl⟩
instance : TOne Try.prog 64 := ⟨fun _ => by kernel_rfl⟩
instance : TZero Try.prog 64 (.nilFunc) [.nilFunc] := ⟨by kernel_rfl, rfl⟩
instance : TSize Try.prog 64 1 8 := ⟨by kernel_rfl⟩
instance : TOne Try.prog 65 := ⟨fun _ => by kernel_rfl⟩
instance : TZero Try.prog 65 (.nilFunc) [.nilFunc] := ⟨by kernel_rfl, rfl⟩
instance : TSize Try.prog 65 1 8 := ⟨by kernel_rfl⟩
instance : TOne Try.prog 66 := ⟨fun _ => by kernel_rfl⟩
instance : TZero Try.prog 66 (.nilFunc) [.nilFunc] := ⟨by kernel_rfl, rfl⟩
instance : TSize Try.prog 66 1 8 := ⟨by kernel_rfl⟩
instance : TOne Try.prog 67 := ⟨fun _ => by kernel_rfl⟩
instance : TZero Try.prog 67 (.nilFunc) [.nilFunc] := ⟨by kernel_rfl, rfl⟩
instance : TSize Try.prog 67 1 8 := ⟨by kernel_rfl⟩
instance : TOne Try.prog 68 := ⟨fun _ => by kernel_rfl⟩
instance : TZero Try.prog 68 (.nilFunc) [.nilFunc] := ⟨by kernel_rfl, rfl⟩
instance : TSize Try.prog 68 1 8 := ⟨by kernel_rfl⟩
instance : TOne Try.prog 69 := ⟨fun _ => by kernel_rfl⟩
instance : TZero Try.prog 69 (.nilFunc) [.nilFunc] := ⟨by kernel_rfl, rfl⟩
instance : TSize Try.prog 69 1 8 := ⟨by kernel_rfl⟩
instance : TOne Try.prog 70 := ⟨fun _ => by kernel_rfl⟩
instance : TZero Try.prog 70 (.nilFunc) [.nilFunc] := ⟨by kernel_rfl, rfl⟩
instance : TSize Try.prog 70 1 8 := ⟨by kernel_rfl⟩
instance : TOne Try.prog 71 := ⟨fun _ => by kernel_rfl⟩
instance : TZero Try.prog 71 (.nilFunc) [.nilFunc] := ⟨by kernel_rfl, rfl⟩
instance : TSize Try.prog 71 1 8 := ⟨by kernel_rfl⟩
instance : TOne Try.prog 72 := ⟨fun _ => by kernel_rfl⟩
instance : TZero Try.prog 72 (.nilFunc) [.nilFunc] := ⟨by kernel_rfl, rfl⟩
instance : TSize Try.prog 72 1 8 := ⟨by kernel_rfl⟩
instance : TOne Try.prog 73 := ⟨fun _ => by kernel_rfl⟩
instance : TZero Try.prog 73 (.slice none 0 0) [.slice none 0 0] := ⟨by kernel_rfl, rfl⟩
instance : TSize Try.prog 73 1 24 := ⟨by kernel_rfl⟩
instance : TSlice Try.prog 73 3 := ⟨by kernel_rfl⟩
instance : TOne Try.prog 74 := ⟨fun _ => by kernel_rfl⟩
instance : TZero Try.prog 74 (.nilFunc) [.nilFunc] := ⟨by kernel_rfl, rfl⟩
instance : TSize Try.prog 74 1 8 := ⟨by kernel_rfl⟩
instance : TInt Try.prog 75 .u64 := ⟨by kernel_rfl⟩
instance : TOne Try.prog 75 := ⟨fun _ => by kernel_rfl⟩
instance : TZero Try.prog 75 (.int .u64 0) [.int .u64 0] := ⟨by kernel_rfl, rfl⟩
instance : TSize Try.prog 75 1 8 := ⟨by kernel_rfl⟩
instance : TOne Try.prog 76 := ⟨fun _ => by kernel_rfl⟩
instance : TZero Try.prog 76 (.nilFunc) [.nilFunc] := ⟨by kernel_rfl, rfl⟩
instance : TSize Try.prog 76 1 8 := ⟨by kernel_rfl⟩
instance : TOne Try.prog 82 := ⟨fun _ => by kernel_rfl⟩
instance : TZero Try.prog 82 (.nilFunc) [.nilFunc] := ⟨by kernel_rfl, rfl⟩
instance : TSize Try.prog 82 1 8 := ⟨by kernel_rfl⟩
instance : TOne Try.prog 86 := ⟨fun _ => by kernel_rfl⟩
instance : TZero Try.prog 86 (.pointer none) [.pointer none] := ⟨by kernel_rfl, rfl⟩
instance : TSize Try.prog 86 1 8 := ⟨by kernel_rfl⟩
instance : TPtr Try.prog 86 5 := ⟨by kernel_rfl⟩
instance : TFun Try.prog 3 := ⟨fun _ _ => by kernel_rfl⟩      -- routing/routinglaw27.ElectElects
instance : TFun Try.prog 4 := ⟨fun _ _ => by kernel_rfl⟩      -- routing/routinglaw27.ElectEligible
instance : TFun Try.prog 5 := ⟨fun _ _ => by kernel_rfl⟩      -- routing/routinglaw27.ElectStable
instance : TFun Try.prog 6 := ⟨fun _ _ => by kernel_rfl⟩      -- routing/routinglaw27.ElectAgrees
instance : TFun Try.prog 7 := ⟨fun _ _ => by kernel_rfl⟩      -- routing/routinglaw27.ElectOrder
instance : TFun Try.prog 8 := ⟨fun _ _ => by kernel_rfl⟩      -- routing/routinglaw27.ElectCandidates
instance : TFun Try.prog 9 := ⟨fun _ _ => by kernel_rfl⟩      -- routing/routinglaw27.ElectRuns
instance : TFun Try.prog 10 := ⟨fun _ _ => by kernel_rfl⟩      -- routing/routinglaw27.lives
instance : TFun Try.prog 11 := ⟨fun _ _ => by kernel_rfl⟩      -- routing/elect.Elect
instance : TFun Try.prog 12 := ⟨fun _ _ => by kernel_rfl⟩      -- routing/routingref27.Elect
instance : TFun Try.prog 13 := ⟨fun _ _ => by kernel_rfl⟩      -- routing/routingref27.Eligible
instance : TFun Try.prog 14 := ⟨fun _ _ => by kernel_rfl⟩      -- routing/routingref26.SameNeighbors
instance : TFun Try.prog 15 := ⟨fun _ _ => by kernel_rfl⟩      -- routing/elect.Candidates
instance : TFun Try.prog 16 := ⟨fun _ _ => by kernel_rfl⟩      -- routing/routingref27.Candidates
instance : TFun Try.prog 17 := ⟨fun _ _ => by kernel_rfl⟩      -- routing/routingref26.Same
instance : TFun Try.prog 18 := ⟨fun _ _ => by kernel_rfl⟩      -- routing/elect.Run
instance : TFun Try.prog 19 := ⟨fun _ _ => by kernel_rfl⟩      -- routing/routingref27.Run
instance : TFun Try.prog 20 := ⟨fun _ _ => by kernel_rfl⟩      -- routing/elect.eligible
instance : TFun Try.prog 21 := ⟨fun _ _ => by kernel_rfl⟩      -- routing/elect.round
instance : TFun Try.prog 22 := ⟨fun _ _ => by kernel_rfl⟩      -- slices.IndexFunc[[]routing/elect.candidate,routing/elect.candidate]
instance : TFun Try.prog 23 := ⟨fun _ _ => by kernel_rfl⟩      -- routing/elect.Elect$1
instance : TFun Try.prog 24 := ⟨fun _ _ => by kernel_rfl⟩      -- (routing/elect.candidate).claimsDR
instance : TFun Try.prog 25 := ⟨fun _ _ => by kernel_rfl⟩      -- (routing/elect.candidate).claimsBDR
instance : TFun Try.prog 26 := ⟨fun _ _ => by kernel_rfl⟩      -- routing/routingref27.round
instance : TFun Try.prog 27 := ⟨fun _ _ => by kernel_rfl⟩      -- routing/routingref27.isDR
instance : TFun Try.prog 28 := ⟨fun _ _ => by kernel_rfl⟩      -- routing/routingref27.isBDR
instance : TFun Try.prog 29 := ⟨fun _ _ => by kernel_rfl⟩      -- routing/routingref26.SameNeighbor
instance : TFun Try.prog 30 := ⟨fun _ _ => by kernel_rfl⟩      -- slices.SortStableFunc[[]routing/api.Neighbor,routing/api.Neighbor]
instance : TFun Try.prog 31 := ⟨fun _ _ => by kernel_rfl⟩      -- routing/elect.Candidates$1
instance : TFun Try.prog 32 := ⟨fun _ _ => by kernel_rfl⟩      -- cmp.Compare[uint32]
instance : TFun Try.prog 33 := ⟨fun _ _ => by kernel_rfl⟩      -- slices.Clone[[]routing/api.Neighbor,routing/api.Neighbor]
instance : TFun Try.prog 34 := ⟨fun _ _ => by kernel_rfl⟩      -- slices.Clone[[]routing/api.LSAHeader,routing/api.LSAHeader]
instance : TFun Try.prog 35 := ⟨fun _ _ => by kernel_rfl⟩      -- routing/elect.preferred[routing/elect.candidate]
instance : TFun Try.prog 36 := ⟨fun _ _ => by kernel_rfl⟩      -- (routing/elect.candidate).assists
instance : TFun Try.prog 37 := ⟨fun _ _ => by kernel_rfl⟩      -- (routing/elect.candidate).before
instance : TFun Try.prog 38 := ⟨fun _ _ => by kernel_rfl⟩      -- (routing/elect.candidate).follows
instance : TFun Try.prog 39 := ⟨fun _ _ => by kernel_rfl⟩      -- routing/routingref27.better
instance : TFun Try.prog 40 := ⟨fun _ _ => by kernel_rfl⟩      -- routing/routingref27.id
instance : TFun Try.prog 41 := ⟨fun _ _ => by kernel_rfl⟩      -- routing/routingref24.SameHeaders
instance : TFun Try.prog 42 := ⟨fun _ _ => by kernel_rfl⟩      -- slices.stableCmpFunc[routing/api.Neighbor]
instance : TFun Try.prog 43 := ⟨fun _ _ => by kernel_rfl⟩      -- cmp.isNaN[uint32]
instance : TFun Try.prog 44 := ⟨fun _ _ => by kernel_rfl⟩      -- cmp.Or[int]
instance : TFun Try.prog 45 := ⟨fun _ _ => by kernel_rfl⟩      -- cmp.Compare[int]
instance : TFun Try.prog 46 := ⟨fun _ _ => by kernel_rfl⟩      -- slices.insertionSortCmpFunc[routing/api.Neighbor]
instance : TFun Try.prog 47 := ⟨fun _ _ => by kernel_rfl⟩      -- slices.symMergeCmpFunc[routing/api.Neighbor]
instance : TFun Try.prog 48 := ⟨fun _ _ => by kernel_rfl⟩      -- cmp.isNaN[int]
instance : TFun Try.prog 49 := ⟨fun _ _ => by kernel_rfl⟩      -- slices.rotateCmpFunc[routing/api.Neighbor]
instance : TFun Try.prog 50 := ⟨fun _ _ => by kernel_rfl⟩      -- slices.swapRangeCmpFunc[routing/api.Neighbor]
end Go.Proofs.Ytfakgiikobajnaa
