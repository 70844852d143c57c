/-
  Part 2 of the texts that the proof of this claim leans on: rules of a walk, contracts of functions, plain facts. Each piece says below what it proves.
  No conditions beyond those that each lemma states.
-/
import Derived.Test.YtjpnaofoeeegeaaR1
import Derived.Test.YtjpnaofoeeegeaaProg
import Derived.WalkKit
import Derived.Lib.Hide
import Derived.WalkSpells
import Derived.WalkLawsBesides
import Derived.Laws.BitsAllLaws

/-
  Facts on the types and functions of this seat's translation, each closed and checked by the kernel: what the rules of the text V look up.
  No conditions. Written by a program of the prover's own.
-/
namespace Go.Proofs.Ytjpnaofoeeegeaa
instance : TOne Try.prog 1 := ⟨fun _ => by kernel_rfl⟩
instance : TZero Try.prog 1 (.nilFunc) [.nilFunc] := ⟨by kernel_rfl, rfl⟩
instance : TSize Try.prog 1 1 8 := ⟨by kernel_rfl⟩
instance : TInt Try.prog 2 .i64 := ⟨by kernel_rfl⟩
instance : TOne Try.prog 2 := ⟨fun _ => by kernel_rfl⟩
instance : TZero Try.prog 2 (.int .i64 0) [.int .i64 0] := ⟨by kernel_rfl, rfl⟩
instance : TSize Try.prog 2 1 8 := ⟨by kernel_rfl⟩
instance : TInt Try.prog 3 .i64 := ⟨by kernel_rfl⟩
instance : TOne Try.prog 3 := ⟨fun _ => by kernel_rfl⟩
instance : TZero Try.prog 3 (.int .i64 0) [.int .i64 0] := ⟨by kernel_rfl, rfl⟩
instance : TSize Try.prog 3 1 8 := ⟨by kernel_rfl⟩
instance : TBool Try.prog 4 := ⟨by kernel_rfl⟩
instance : TOne Try.prog 4 := ⟨fun _ => by kernel_rfl⟩
instance : TZero Try.prog 4 (.bool false) [.bool false] := ⟨by kernel_rfl, rfl⟩
instance : TSize Try.prog 4 1 1 := ⟨by kernel_rfl⟩
instance : TInt Try.prog 5 .u8 := ⟨by kernel_rfl⟩
instance : TOne Try.prog 5 := ⟨fun _ => by kernel_rfl⟩
instance : TZero Try.prog 5 (.int .u8 0) [.int .u8 0] := ⟨by kernel_rfl, rfl⟩
instance : TSize Try.prog 5 1 1 := ⟨by kernel_rfl⟩
instance : TOne Try.prog 9 := ⟨fun _ => by kernel_rfl⟩
instance : TZero Try.prog 9 (.string ByteArray.empty) [.string ByteArray.empty] := ⟨by kernel_rfl, rfl⟩
instance : TSize Try.prog 9 1 16 := ⟨by kernel_rfl⟩
instance : TInt Try.prog 12 .u64 := ⟨by kernel_rfl⟩
instance : TOne Try.prog 12 := ⟨fun _ => by kernel_rfl⟩
instance : TZero Try.prog 12 (.int .u64 0) [.int .u64 0] := ⟨by kernel_rfl, rfl⟩
instance : TSize Try.prog 12 1 8 := ⟨by kernel_rfl⟩
instance : TAgg Try.prog 13 2 := ⟨fun _ => by kernel_rfl, by kernel_rfl⟩
instance : TZero Try.prog 13 (.agg #[.string ByteArray.empty, .int .u64 0]) [.string ByteArray.empty, .int .u64 0] := ⟨by kernel_rfl, rfl⟩
instance : TSize Try.prog 13 2 24 := ⟨by kernel_rfl⟩
instance : TField Try.prog 13 0 9 0 := ⟨fun _ _ => by kernel_rfl⟩
instance : TPart1 Try.prog 13 0 0 := ⟨fun _ _ => by kernel_rfl⟩
instance : TField Try.prog 13 1 12 1 := ⟨fun _ _ => by kernel_rfl⟩
instance : TPart1 Try.prog 13 1 1 := ⟨fun _ _ => by kernel_rfl⟩
instance : TBuild Try.prog 13 [(0, 1), (1, 1)] [.string ByteArray.empty, .int .u64 0] := ⟨fun _ => by kernel_rfl⟩
instance : TOne Try.prog 20 := ⟨fun _ => by kernel_rfl⟩
instance : TZero Try.prog 20 (.nilIface) [.nilIface] := ⟨by kernel_rfl, rfl⟩
instance : TSize Try.prog 20 1 16 := ⟨by kernel_rfl⟩
instance : TInt Try.prog 21 .i32 := ⟨by kernel_rfl⟩
instance : TOne Try.prog 21 := ⟨fun _ => by kernel_rfl⟩
instance : TZero Try.prog 21 (.int .i32 0) [.int .i32 0] := ⟨by kernel_rfl, rfl⟩
instance : TSize Try.prog 21 1 4 := ⟨by kernel_rfl⟩
instance : TOne Try.prog 22 := ⟨fun _ => by kernel_rfl⟩
instance : TZero Try.prog 22 (.slice none 0 0) [.slice none 0 0] := ⟨by kernel_rfl, rfl⟩
instance : TSize Try.prog 22 1 24 := ⟨by kernel_rfl⟩
instance : TSlice Try.prog 22 42 := ⟨by kernel_rfl⟩
instance : TInt Try.prog 23 .u32 := ⟨by kernel_rfl⟩
instance : TOne Try.prog 23 := ⟨fun _ => by kernel_rfl⟩
instance : TZero Try.prog 23 (.int .u32 0) [.int .u32 0] := ⟨by kernel_rfl, rfl⟩
instance : TSize Try.prog 23 1 4 := ⟨by kernel_rfl⟩
instance : TInt Try.prog 24 .u32 := ⟨by kernel_rfl⟩
instance : TOne Try.prog 24 := ⟨fun _ => by kernel_rfl⟩
instance : TZero Try.prog 24 (.int .u32 0) [.int .u32 0] := ⟨by kernel_rfl, rfl⟩
instance : TSize Try.prog 24 1 4 := ⟨by kernel_rfl⟩
instance : TOne Try.prog 25 := ⟨fun _ => by kernel_rfl⟩
instance : TZero Try.prog 25 (.nilFunc) [.nilFunc] := ⟨by kernel_rfl, rfl⟩
instance : TSize Try.prog 25 1 8 := ⟨by kernel_rfl⟩
instance : TInt Try.prog 26 .i64 := ⟨by kernel_rfl⟩
instance : TOne Try.prog 26 := ⟨fun _ => by kernel_rfl⟩
instance : TZero Try.prog 26 (.int .i64 0) [.int .i64 0] := ⟨by kernel_rfl, rfl⟩
instance : TSize Try.prog 26 1 8 := ⟨by kernel_rfl⟩
instance : TOne Try.prog 28 := ⟨fun _ => by kernel_rfl⟩
instance : TZero Try.prog 28 (.nilFunc) [.nilFunc] := ⟨by kernel_rfl, rfl⟩
instance : TSize Try.prog 28 1 8 := ⟨by kernel_rfl⟩
instance : TOne Try.prog 29 := ⟨fun _ => by kernel_rfl⟩
instance : TZero Try.prog 29 (.slice none 0 0) [.slice none 0 0] := ⟨by kernel_rfl, rfl⟩
instance : TSize Try.prog 29 1 24 := ⟨by kernel_rfl⟩
instance : TSlice Try.prog 29 73 := ⟨by kernel_rfl⟩
instance : TOne Try.prog 30 := ⟨fun _ => by kernel_rfl⟩
instance : TZero Try.prog 30 (.slice none 0 0) [.slice none 0 0] := ⟨by kernel_rfl, rfl⟩
instance : TSize Try.prog 30 1 24 := ⟨by kernel_rfl⟩
instance : TSlice Try.prog 30 3 := ⟨by kernel_rfl⟩
instance : TAgg Try.prog 31 2 := ⟨fun _ => by kernel_rfl, by kernel_rfl⟩
instance : TZero Try.prog 31 (.agg #[.slice none 0 0, .slice none 0 0]) [.slice none 0 0, .slice none 0 0] := ⟨by kernel_rfl, rfl⟩
instance : TSize Try.prog 31 2 48 := ⟨by kernel_rfl⟩
instance : TField Try.prog 31 0 29 0 := ⟨fun _ _ => by kernel_rfl⟩
instance : TPart1 Try.prog 31 0 0 := ⟨fun _ _ => by kernel_rfl⟩
instance : TField Try.prog 31 1 30 1 := ⟨fun _ _ => by kernel_rfl⟩
instance : TPart1 Try.prog 31 1 1 := ⟨fun _ _ => by kernel_rfl⟩
instance : TBuild Try.prog 31 [(0, 1), (1, 1)] [.slice none 0 0, .slice none 0 0] := ⟨fun _ => by kernel_rfl⟩
instance : TAgg Try.prog 32 2 := ⟨fun _ => by kernel_rfl, by kernel_rfl⟩
instance : TZero Try.prog 32 (.agg #[.slice none 0 0, .slice none 0 0]) [.slice none 0 0, .slice none 0 0] := ⟨by kernel_rfl, rfl⟩
instance : TSize Try.prog 32 2 48 := ⟨by kernel_rfl⟩
instance : TField Try.prog 32 0 29 0 := ⟨fun _ _ => by kernel_rfl⟩
instance : TPart1 Try.prog 32 0 0 := ⟨fun _ _ => by kernel_rfl⟩
instance : TField Try.prog 32 1 30 1 := ⟨fun _ _ => by kernel_rfl⟩
instance : TPart1 Try.prog 32 1 1 := ⟨fun _ _ => by kernel_rfl⟩
instance : TBuild Try.prog 32 [(0, 1), (1, 1)] [.slice none 0 0, .slice none 0 0] := ⟨fun _ => by kernel_rfl⟩
instance : TOne Try.prog 34 := ⟨fun _ => by kernel_rfl⟩
instance : TZero Try.prog 34 (.nilFunc) [.nilFunc] := ⟨by kernel_rfl, rfl⟩
instance : TSize Try.prog 34 1 8 := ⟨by kernel_rfl⟩
instance : TOne Try.prog 35 := ⟨fun _ => by kernel_rfl⟩
instance : TZero Try.prog 35 (.nilFunc) [.nilFunc] := ⟨by kernel_rfl, rfl⟩
instance : TSize Try.prog 35 1 8 := ⟨by kernel_rfl⟩
instance : TOne Try.prog 36 := ⟨fun _ => by kernel_rfl⟩
instance : TZero Try.prog 36 (.pointer none) [.pointer none] := ⟨by kernel_rfl, rfl⟩
instance : TSize Try.prog 36 1 8 := ⟨by kernel_rfl⟩
instance : TPtr Try.prog 36 138 := ⟨by kernel_rfl⟩
instance : TOne Try.prog 38 := ⟨fun _ => by kernel_rfl⟩
instance : TZero Try.prog 38 (.nilFunc) [.nilFunc] := ⟨by kernel_rfl, rfl⟩
instance : TSize Try.prog 38 1 8 := ⟨by kernel_rfl⟩
instance : TAgg Try.prog 39 2 := ⟨fun _ => by kernel_rfl, by kernel_rfl⟩
instance : TZero Try.prog 39 (.agg #[.int .u32 0, .int .i64 0]) [.int .u32 0, .int .i64 0] := ⟨by kernel_rfl, rfl⟩
instance : TSize Try.prog 39 2 16 := ⟨by kernel_rfl⟩
instance : TField Try.prog 39 0 24 0 := ⟨fun _ _ => by kernel_rfl⟩
instance : TPart1 Try.prog 39 0 0 := ⟨fun _ _ => by kernel_rfl⟩
instance : TField Try.prog 39 1 3 1 := ⟨fun _ _ => by kernel_rfl⟩
instance : TPart1 Try.prog 39 1 1 := ⟨fun _ _ => by kernel_rfl⟩
instance : TBuild Try.prog 39 [(0, 1), (1, 1)] [.int .u32 0, .int .i64 0] := ⟨fun _ => by kernel_rfl⟩
instance : TAgg Try.prog 40 2 := ⟨fun _ => by kernel_rfl, by kernel_rfl⟩
instance : TZero Try.prog 40 (.agg #[.int .u32 0, .int .i64 0]) [.int .u32 0, .int .i64 0] := ⟨by kernel_rfl, rfl⟩
instance : TSize Try.prog 40 2 16 := ⟨by kernel_rfl⟩
instance : TField Try.prog 40 0 24 0 := ⟨fun _ _ => by kernel_rfl⟩
instance : TPart1 Try.prog 40 0 0 := ⟨fun _ _ => by kernel_rfl⟩
instance : TField Try.prog 40 1 3 1 := ⟨fun _ _ => by kernel_rfl⟩
instance : TPart1 Try.prog 40 1 1 := ⟨fun _ _ => by kernel_rfl⟩
instance : TBuild Try.prog 40 [(0, 1), (1, 1)] [.int .u32 0, .int .i64 0] := ⟨fun _ => by kernel_rfl⟩
instance : TAgg Try.prog 41 3 := ⟨fun _ => by kernel_rfl, by kernel_rfl⟩
instance : TZero Try.prog 41 (.agg #[.int .u32 0, .int .i64 0, .int .i64 0]) [.int .u32 0, .int .i64 0, .int .i64 0] := ⟨by kernel_rfl, rfl⟩
instance : TSize Try.prog 41 3 24 := ⟨by kernel_rfl⟩
instance : TField Try.prog 41 0 40 0 := ⟨fun _ _ => by kernel_rfl⟩
instance : TPartN Try.prog 41 0 0 2 := ⟨fun _ _ => by kernel_rfl⟩
instance : TField Try.prog 41 1 3 2 := ⟨fun _ _ => by kernel_rfl⟩
instance : TPart1 Try.prog 41 1 2 := ⟨fun _ _ => by kernel_rfl⟩
instance : TBuild Try.prog 41 [(0, 2), (2, 1)] [.int .u32 0, .int .i64 0, .int .i64 0] := ⟨fun _ => by kernel_rfl⟩
instance : TAgg Try.prog 42 3 := ⟨fun _ => by kernel_rfl, by kernel_rfl⟩
instance : TZero Try.prog 42 (.agg #[.int .u32 0, .int .i64 0, .int .i64 0]) [.int .u32 0, .int .i64 0, .int .i64 0] := ⟨by kernel_rfl, rfl⟩
instance : TSize Try.prog 42 3 24 := ⟨by kernel_rfl⟩
instance : TField Try.prog 42 0 40 0 := ⟨fun _ _ => by kernel_rfl⟩
instance : TPartN Try.prog 42 0 0 2 := ⟨fun _ _ => by kernel_rfl⟩
instance : TField Try.prog 42 1 3 2 := ⟨fun _ _ => by kernel_rfl⟩
instance : TPart1 Try.prog 42 1 2 := ⟨fun _ _ => by kernel_rfl⟩
instance : TBuild Try.prog 42 [(0, 2), (2, 1)] [.int .u32 0, .int .i64 0, .int .i64 0] := ⟨fun _ => by kernel_rfl⟩
instance : TOne Try.prog 44 := ⟨fun _ => by kernel_rfl⟩
instance : TZero Try.prog 44 (.nilFunc) [.nilFunc] := ⟨by kernel_rfl, rfl⟩
instance : TSize Try.prog 44 1 8 := ⟨by kernel_rfl⟩
instance : TOne Try.prog 46 := ⟨fun _ => by kernel_rfl⟩
instance : TZero Try.prog 46 (.nilFunc) [.nilFunc] := ⟨by kernel_rfl, rfl⟩
instance : TSize Try.prog 46 1 8 := ⟨by kernel_rfl⟩
instance : TOne Try.prog 47 := ⟨fun _ => by kernel_rfl⟩
instance : TZero Try.prog 47 (.nilFunc) [.nilFunc] := ⟨by kernel_rfl, rfl⟩
instance : TSize Try.prog 47 1 8 := ⟨by kernel_rfl⟩
instance : TOne Try.prog 48 := ⟨fun _ => by kernel_rfl⟩
instance : TZero Try.prog 48 (.nilFunc) [.nilFunc] := ⟨by kernel_rfl, rfl⟩
instance : TSize Try.prog 48 1 8 := ⟨by kernel_rfl⟩
instance : TOne Try.prog 49 := ⟨fun _ => by kernel_rfl⟩
instance : TZero Try.prog 49 (.nilFunc) [.nilFunc] := ⟨by kernel_rfl, rfl⟩
instance : TSize Try.prog 49 1 8 := ⟨by kernel_rfl⟩
instance : TOne Try.prog 50 := ⟨fun _ => by kernel_rfl⟩
instance : TZero Try.prog 50 (.nilFunc) [.nilFunc] := ⟨by kernel_rfl, rfl⟩
instance : TSize Try.prog 50 1 8 := ⟨by kernel_rfl⟩
instance : TOne Try.prog 51 := ⟨fun _ => by kernel_rfl⟩
instance : TZero Try.prog 51 (.nilFunc) [.nilFunc] := ⟨by kernel_rfl, rfl⟩
instance : TSize Try.prog 51 1 8 := ⟨by kernel_rfl⟩
instance : TOne Try.prog 52 := ⟨fun _ => by kernel_rfl⟩
instance : TZero Try.prog 52 (.nilFunc) [.nilFunc] := ⟨by kernel_rfl, rfl⟩
instance : TSize Try.prog 52 1 8 := ⟨by kernel_rfl⟩
instance : TInt Try.prog 53 .u64 := ⟨by kernel_rfl⟩
instance : TOne Try.prog 53 := ⟨fun _ => by kernel_rfl⟩
instance : TZero Try.prog 53 (.int .u64 0) [.int .u64 0] := ⟨by kernel_rfl, rfl⟩
instance : TSize Try.prog 53 1 8 := ⟨by kernel_rfl⟩
instance : TOne Try.prog 54 := ⟨fun _ => by kernel_rfl⟩
instance : TZero Try.prog 54 (.nilFunc) [.nilFunc] := ⟨by kernel_rfl, rfl⟩
instance : TSize Try.prog 54 1 8 := ⟨by kernel_rfl⟩
instance : TOne Try.prog 55 := ⟨fun _ => by kernel_rfl⟩
instance : TZero Try.prog 55 (.nilFunc) [.nilFunc] := ⟨by kernel_rfl, rfl⟩
instance : TSize Try.prog 55 1 8 := ⟨by kernel_rfl⟩
instance : TOne Try.prog 56 := ⟨fun _ => by kernel_rfl⟩
instance : TZero Try.prog 56 (.nilFunc) [.nilFunc] := ⟨by kernel_rfl, rfl⟩
instance : TSize Try.prog 56 1 8 := ⟨by kernel_rfl⟩
instance : TOne Try.prog 57 := ⟨fun _ => by kernel_rfl⟩
instance : TZero Try.prog 57 (.nilFunc) [.nilFunc] := ⟨by kernel_rfl, rfl⟩
instance : TSize Try.prog 57 1 8 := ⟨by kernel_rfl⟩
instance : TOne Try.prog 58 := ⟨fun _ => by kernel_rfl⟩
instance : TZero Try.prog 58 (.nilFunc) [.nilFunc] := ⟨by kernel_rfl, rfl⟩
instance : TSize Try.prog 58 1 8 := ⟨by kernel_rfl⟩
instance : TOne Try.prog 59 := ⟨fun _ => by kernel_rfl⟩
instance : TZero Try.prog 59 (.pointer none) [.pointer none] := ⟨by kernel_rfl, rfl⟩
instance : TSize Try.prog 59 1 8 := ⟨by kernel_rfl⟩
instance : TPtr Try.prog 59 110 := ⟨by kernel_rfl⟩
instance : TOne Try.prog 60 := ⟨fun _ => by kernel_rfl⟩
instance : TZero Try.prog 60 (.nilFunc) [.nilFunc] := ⟨by kernel_rfl, rfl⟩
instance : TSize Try.prog 60 1 8 := ⟨by kernel_rfl⟩
instance : TOne Try.prog 61 := ⟨fun _ => by kernel_rfl⟩
instance : TZero Try.prog 61 (.nilFunc) [.nilFunc] := ⟨by kernel_rfl, rfl⟩
instance : TSize Try.prog 61 1 8 := ⟨by kernel_rfl⟩
instance : TOne Try.prog 62 := ⟨fun _ => by kernel_rfl⟩
instance : TZero Try.prog 62 (.nilFunc) [.nilFunc] := ⟨by kernel_rfl, rfl⟩
instance : TSize Try.prog 62 1 8 := ⟨by kernel_rfl⟩
instance : TOne Try.prog 63 := ⟨fun _ => by kernel_rfl⟩
instance : TZero Try.prog 63 (.nilFunc) [.nilFunc] := ⟨by kernel_rfl, rfl⟩
instance : TSize Try.prog 63 1 8 := ⟨by kernel_rfl⟩
instance : TOne Try.prog 64 := ⟨fun _ => by kernel_rfl⟩
instance : TZero Try.prog 64 (.slice none 0 0) [.slice none 0 0] := ⟨by kernel_rfl, rfl⟩
instance : TSize Try.prog 64 1 24 := ⟨by kernel_rfl⟩
instance : TSlice Try.prog 64 94 := ⟨by kernel_rfl⟩
instance : TOne Try.prog 65 := ⟨fun _ => by kernel_rfl⟩
instance : TZero Try.prog 65 (.nilFunc) [.nilFunc] := ⟨by kernel_rfl, rfl⟩
instance : TSize Try.prog 65 1 8 := ⟨by kernel_rfl⟩
instance : TOne Try.prog 66 := ⟨fun _ => by kernel_rfl⟩
instance : TZero Try.prog 66 (.nilFunc) [.nilFunc] := ⟨by kernel_rfl, rfl⟩
instance : TSize Try.prog 66 1 8 := ⟨by kernel_rfl⟩
instance : TOne Try.prog 67 := ⟨fun _ => by kernel_rfl⟩
instance : TZero Try.prog 67 (.nilFunc) [.nilFunc] := ⟨by kernel_rfl, rfl⟩
instance : TSize Try.prog 67 1 8 := ⟨by kernel_rfl⟩
instance : TOne Try.prog 68 := ⟨fun _ => by kernel_rfl⟩
instance : TZero Try.prog 68 (.nilFunc) [.nilFunc] := ⟨by kernel_rfl, rfl⟩
instance : TSize Try.prog 68 1 8 := ⟨by kernel_rfl⟩
instance : TOne Try.prog 70 := ⟨fun _ => by kernel_rfl⟩
instance : TZero Try.prog 70 (.nilFunc) [.nilFunc] := ⟨by kernel_rfl, rfl⟩
instance : TSize Try.prog 70 1 8 := ⟨by kernel_rfl⟩
instance : TOne Try.prog 71 := ⟨fun _ => by kernel_rfl⟩
instance : TZero Try.prog 71 (.nilFunc) [.nilFunc] := ⟨by kernel_rfl, rfl⟩
instance : TSize Try.prog 71 1 8 := ⟨by kernel_rfl⟩
instance : TAgg Try.prog 72 4 := ⟨fun _ => by kernel_rfl, by kernel_rfl⟩
instance : TZero Try.prog 72 (.agg #[.int .u64 0, .int .u64 0, .int .i64 0, .int .i64 0]) [.int .u64 0, .int .u64 0, .int .i64 0, .int .i64 0] := ⟨by kernel_rfl, rfl⟩
instance : TSize Try.prog 72 4 32 := ⟨by kernel_rfl⟩
instance : TField Try.prog 72 0 53 0 := ⟨fun _ _ => by kernel_rfl⟩
instance : TPart1 Try.prog 72 0 0 := ⟨fun _ _ => by kernel_rfl⟩
instance : TField Try.prog 72 1 53 1 := ⟨fun _ _ => by kernel_rfl⟩
instance : TPart1 Try.prog 72 1 1 := ⟨fun _ _ => by kernel_rfl⟩
instance : TField Try.prog 72 2 3 2 := ⟨fun _ _ => by kernel_rfl⟩
instance : TPart1 Try.prog 72 2 2 := ⟨fun _ _ => by kernel_rfl⟩
instance : TField Try.prog 72 3 3 3 := ⟨fun _ _ => by kernel_rfl⟩
instance : TPart1 Try.prog 72 3 3 := ⟨fun _ _ => by kernel_rfl⟩
instance : TBuild Try.prog 72 [(0, 1), (1, 1), (2, 1), (3, 1)] [.int .u64 0, .int .u64 0, .int .i64 0, .int .i64 0] := ⟨fun _ => by kernel_rfl⟩
instance : TAgg Try.prog 73 4 := ⟨fun _ => by kernel_rfl, by kernel_rfl⟩
instance : TZero Try.prog 73 (.agg #[.int .u64 0, .int .u64 0, .int .i64 0, .int .i64 0]) [.int .u64 0, .int .u64 0, .int .i64 0, .int .i64 0] := ⟨by kernel_rfl, rfl⟩
instance : TSize Try.prog 73 4 32 := ⟨by kernel_rfl⟩
instance : TField Try.prog 73 0 53 0 := ⟨fun _ _ => by kernel_rfl⟩
instance : TPart1 Try.prog 73 0 0 := ⟨fun _ _ => by kernel_rfl⟩
instance : TField Try.prog 73 1 53 1 := ⟨fun _ _ => by kernel_rfl⟩
instance : TPart1 Try.prog 73 1 1 := ⟨fun _ _ => by kernel_rfl⟩
instance : TField Try.prog 73 2 3 2 := ⟨fun _ _ => by kernel_rfl⟩
instance : TPart1 Try.prog 73 2 2 := ⟨fun _ _ => by kernel_rfl⟩
instance : TField Try.prog 73 3 3 3 := ⟨fun _ _ => by kernel_rfl⟩
instance : TPart1 Try.prog 73 3 3 := ⟨fun _ _ => by kernel_rfl⟩
instance : TBuild Try.prog 73 [(0, 1), (1, 1), (2, 1), (3, 1)] [.int .u64 0, .int .u64 0, .int .i64 0, .int .i64 0] := ⟨fun _ => by kernel_rfl⟩
instance : TOne Try.prog 74 := ⟨fun _ => by kernel_rfl⟩
instance : TZero Try.prog 74 (.nilFunc) [.nilFunc] := ⟨by kernel_rfl, rfl⟩
instance : TSize Try.prog 74 1 8 := ⟨by kernel_rfl⟩
instance : TOne Try.prog 76 := ⟨fun _ => by kernel_rfl⟩
instance : TZero Try.prog 76 (.nilFunc) [.nilFunc] := ⟨by kernel_rfl, rfl⟩
instance : TSize Try.prog 76 1 8 := ⟨by kernel_rfl⟩
instance : TOne Try.prog 77 := ⟨fun _ => by kernel_rfl⟩
instance : TZero Try.prog 77 (.nilFunc) [.nilFunc] := ⟨by kernel_rfl, rfl⟩
instance : TSize Try.prog 77 1 8 := ⟨by kernel_rfl⟩
instance : TOne Try.prog 78 := ⟨fun _ => by kernel_rfl⟩
instance : TZero Try.prog 78 (.nilFunc) [.nilFunc] := ⟨by kernel_rfl, rfl⟩
instance : TSize Try.prog 78 1 8 := ⟨by kernel_rfl⟩
instance : TOne Try.prog 79 := ⟨fun _ => by kernel_rfl⟩
instance : TZero Try.prog 79 (.slice none 0 0) [.slice none 0 0] := ⟨by kernel_rfl, rfl⟩
instance : TSize Try.prog 79 1 24 := ⟨by kernel_rfl⟩
instance : TSlice Try.prog 79 53 := ⟨by kernel_rfl⟩
instance : TOne Try.prog 80 := ⟨fun _ => by kernel_rfl⟩
instance : TZero Try.prog 80 (.nilFunc) [.nilFunc] := ⟨by kernel_rfl, rfl⟩
instance : TSize Try.prog 80 1 8 := ⟨by kernel_rfl⟩
instance : TAgg Try.prog 81 2 := ⟨fun _ => by kernel_rfl, by kernel_rfl⟩
instance : TZero Try.prog 81 (.agg #[.int .u64 0, .int .i64 0]) [.int .u64 0, .int .i64 0] := ⟨by kernel_rfl, rfl⟩
instance : TSize Try.prog 81 2 16 := ⟨by kernel_rfl⟩
instance : TField Try.prog 81 0 53 0 := ⟨fun _ _ => by kernel_rfl⟩
instance : TPart1 Try.prog 81 0 0 := ⟨fun _ _ => by kernel_rfl⟩
instance : TField Try.prog 81 1 3 1 := ⟨fun _ _ => by kernel_rfl⟩
instance : TPart1 Try.prog 81 1 1 := ⟨fun _ _ => by kernel_rfl⟩
instance : TBuild Try.prog 81 [(0, 1), (1, 1)] [.int .u64 0, .int .i64 0] := ⟨fun _ => by kernel_rfl⟩
instance : TAgg Try.prog 82 2 := ⟨fun _ => by kernel_rfl, by kernel_rfl⟩
instance : TZero Try.prog 82 (.agg #[.int .u64 0, .int .i64 0]) [.int .u64 0, .int .i64 0] := ⟨by kernel_rfl, rfl⟩
instance : TSize Try.prog 82 2 16 := ⟨by kernel_rfl⟩
instance : TField Try.prog 82 0 53 0 := ⟨fun _ _ => by kernel_rfl⟩
instance : TPart1 Try.prog 82 0 0 := ⟨fun _ _ => by kernel_rfl⟩
instance : TField Try.prog 82 1 3 1 := ⟨fun _ _ => by kernel_rfl⟩
instance : TPart1 Try.prog 82 1 1 := ⟨fun _ _ => by kernel_rfl⟩
instance : TBuild Try.prog 82 [(0, 1), (1, 1)] [.int .u64 0, .int .i64 0] := ⟨fun _ => by kernel_rfl⟩
instance : TOne Try.prog 83 := ⟨fun _ => by kernel_rfl⟩
instance : TZero Try.prog 83 (.slice none 0 0) [.slice none 0 0] := ⟨by kernel_rfl, rfl⟩
instance : TSize Try.prog 83 1 24 := ⟨by kernel_rfl⟩
instance : TSlice Try.prog 83 82 := ⟨by kernel_rfl⟩
instance : TOne Try.prog 85 := ⟨fun _ => by kernel_rfl⟩
instance : TZero Try.prog 85 (.nilFunc) [.nilFunc] := ⟨by kernel_rfl, rfl⟩
instance : TSize Try.prog 85 1 8 := ⟨by kernel_rfl⟩
instance : TOne Try.prog 86 := ⟨fun _ => by kernel_rfl⟩
instance : TZero Try.prog 86 (.nilFunc) [.nilFunc] := ⟨by kernel_rfl, rfl⟩
instance : TSize Try.prog 86 1 8 := ⟨by kernel_rfl⟩
instance : TOne Try.prog 87 := ⟨fun _ => by kernel_rfl⟩
instance : TZero Try.prog 87 (.nilFunc) [.nilFunc] := ⟨by kernel_rfl, rfl⟩
instance : TSize Try.prog 87 1 8 := ⟨by kernel_rfl⟩
instance : TOne Try.prog 88 := ⟨fun _ => by kernel_rfl⟩
instance : TZero Try.prog 88 (.nilFunc) [.nilFunc] := ⟨by kernel_rfl, rfl⟩
instance : TSize Try.prog 88 1 8 := ⟨by kernel_rfl⟩
instance : TOne Try.prog 90 := ⟨fun _ => by kernel_rfl⟩
instance : TZero Try.prog 90 (.nilFunc) [.nilFunc] := ⟨by kernel_rfl, rfl⟩
instance : TSize Try.prog 90 1 8 := ⟨by kernel_rfl⟩
instance : TOne Try.prog 92 := ⟨fun _ => by kernel_rfl⟩
instance : TZero Try.prog 92 (.nilFunc) [.nilFunc] := ⟨by kernel_rfl, rfl⟩
instance : TSize Try.prog 92 1 8 := ⟨by kernel_rfl⟩
instance : TAgg Try.prog 93 2 := ⟨fun _ => by kernel_rfl, by kernel_rfl⟩
instance : TZero Try.prog 93 (.agg #[.int .u64 0, .int .i64 0]) [.int .u64 0, .int .i64 0] := ⟨by kernel_rfl, rfl⟩
instance : TSize Try.prog 93 2 16 := ⟨by kernel_rfl⟩
instance : TField Try.prog 93 0 53 0 := ⟨fun _ _ => by kernel_rfl⟩
instance : TPart1 Try.prog 93 0 0 := ⟨fun _ _ => by kernel_rfl⟩
instance : TField Try.prog 93 1 3 1 := ⟨fun _ _ => by kernel_rfl⟩
instance : TPart1 Try.prog 93 1 1 := ⟨fun _ _ => by kernel_rfl⟩
instance : TBuild Try.prog 93 [(0, 1), (1, 1)] [.int .u64 0, .int .i64 0] := ⟨fun _ => by kernel_rfl⟩
instance : TAgg Try.prog 94 2 := ⟨fun _ => by kernel_rfl, by kernel_rfl⟩
instance : TZero Try.prog 94 (.agg #[.int .u64 0, .int .i64 0]) [.int .u64 0, .int .i64 0] := ⟨by kernel_rfl, rfl⟩
instance : TSize Try.prog 94 2 16 := ⟨by kernel_rfl⟩
instance : TField Try.prog 94 0 53 0 := ⟨fun _ _ => by kernel_rfl⟩
instance : TPart1 Try.prog 94 0 0 := ⟨fun _ _ => by kernel_rfl⟩
instance : TField Try.prog 94 1 3 1 := ⟨fun _ _ => by kernel_rfl⟩
instance : TPart1 Try.prog 94 1 1 := ⟨fun _ _ => by kernel_rfl⟩
instance : TBuild Try.prog 94 [(0, 1), (1, 1)] [.int .u64 0, .int .i64 0] := ⟨fun _ => by kernel_rfl⟩
instance : TOne Try.prog 95 := ⟨fun _ => by kernel_rfl⟩
instance : TZero Try.prog 95 (.nilFunc) [.nilFunc] := ⟨by kernel_rfl, rfl⟩
instance : TSize Try.prog 95 1 8 := ⟨by kernel_rfl⟩
instance : TOne Try.prog 96 := ⟨fun _ => by kernel_rfl⟩
instance : TZero Try.prog 96 (.nilFunc) [.nilFunc] := ⟨by kernel_rfl, rfl⟩
instance : TSize Try.prog 96 1 8 := ⟨by kernel_rfl⟩
instance : TOne Try.prog 97 := ⟨fun _ => by kernel_rfl⟩
instance : TZero Try.prog 97 (.slice none 0 0) [.slice none 0 0] := ⟨by kernel_rfl, rfl⟩
instance : TSize Try.prog 97 1 24 := ⟨by kernel_rfl⟩
instance : TSlice Try.prog 97 100 := ⟨by kernel_rfl⟩
instance : TOne Try.prog 98 := ⟨fun _ => by kernel_rfl⟩
instance : TZero Try.prog 98 (.nilFunc) [.nilFunc] := ⟨by kernel_rfl, rfl⟩
instance : TSize Try.prog 98 1 8 := ⟨by kernel_rfl⟩
instance : TAgg Try.prog 99 3 := ⟨fun _ => by kernel_rfl, by kernel_rfl⟩
instance : TZero Try.prog 99 (.agg #[.int .u64 0, .int .u64 0, .int .i64 0]) [.int .u64 0, .int .u64 0, .int .i64 0] := ⟨by kernel_rfl, rfl⟩
instance : TSize Try.prog 99 3 24 := ⟨by kernel_rfl⟩
instance : TField Try.prog 99 0 53 0 := ⟨fun _ _ => by kernel_rfl⟩
instance : TPart1 Try.prog 99 0 0 := ⟨fun _ _ => by kernel_rfl⟩
instance : TField Try.prog 99 1 53 1 := ⟨fun _ _ => by kernel_rfl⟩
instance : TPart1 Try.prog 99 1 1 := ⟨fun _ _ => by kernel_rfl⟩
instance : TField Try.prog 99 2 3 2 := ⟨fun _ _ => by kernel_rfl⟩
instance : TPart1 Try.prog 99 2 2 := ⟨fun _ _ => by kernel_rfl⟩
instance : TBuild Try.prog 99 [(0, 1), (1, 1), (2, 1)] [.int .u64 0, .int .u64 0, .int .i64 0] := ⟨fun _ => by kernel_rfl⟩
instance : TAgg Try.prog 100 3 := ⟨fun _ => by kernel_rfl, by kernel_rfl⟩
instance : TZero Try.prog 100 (.agg #[.int .u64 0, .int .u64 0, .int .i64 0]) [.int .u64 0, .int .u64 0, .int .i64 0] := ⟨by kernel_rfl, rfl⟩
instance : TSize Try.prog 100 3 24 := ⟨by kernel_rfl⟩
instance : TField Try.prog 100 0 53 0 := ⟨fun _ _ => by kernel_rfl⟩
instance : TPart1 Try.prog 100 0 0 := ⟨fun _ _ => by kernel_rfl⟩
instance : TField Try.prog 100 1 53 1 := ⟨fun _ _ => by kernel_rfl⟩
instance : TPart1 Try.prog 100 1 1 := ⟨fun _ _ => by kernel_rfl⟩
instance : TField Try.prog 100 2 3 2 := ⟨fun _ _ => by kernel_rfl⟩
instance : TPart1 Try.prog 100 2 2 := ⟨fun _ _ => by kernel_rfl⟩
instance : TBuild Try.prog 100 [(0, 1), (1, 1), (2, 1)] [.int .u64 0, .int .u64 0, .int .i64 0] := ⟨fun _ => by kernel_rfl⟩
instance : TOne Try.prog 101 := ⟨fun _ => by kernel_rfl⟩
instance : TZero Try.prog 101 (.slice none 0 0) [.slice none 0 0] := ⟨by kernel_rfl, rfl⟩
instance : TSize Try.prog 101 1 24 := ⟨by kernel_rfl⟩
instance : TSlice Try.prog 101 40 := ⟨by kernel_rfl⟩
instance : TOne Try.prog 103 := ⟨fun _ => by kernel_rfl⟩
instance : TZero Try.prog 103 (.nilFunc) [.nilFunc] := ⟨by kernel_rfl, rfl⟩
instance : TSize Try.prog 103 1 8 := ⟨by kernel_rfl⟩
instance : TOne Try.prog 105 := ⟨fun _ => by kernel_rfl⟩
instance : TZero Try.prog 105 (.nilFunc) [.nilFunc] := ⟨by kernel_rfl, rfl⟩
instance : TSize Try.prog 105 1 8 := ⟨by kernel_rfl⟩
instance : TOne Try.prog 106 := ⟨fun _ => by kernel_rfl⟩
instance : TZero Try.prog 106 (.nilFunc) [.nilFunc] := ⟨by kernel_rfl, rfl⟩
instance : TSize Try.prog 106 1 8 := ⟨by kernel_rfl⟩
instance : TAgg Try.prog 107 2 := ⟨fun _ => by kernel_rfl, by kernel_rfl⟩
instance : TZero Try.prog 107 (.agg #[.pointer none, .pointer none]) [.pointer none, .pointer none] := ⟨by kernel_rfl, rfl⟩
instance : TSize Try.prog 107 2 16 := ⟨by kernel_rfl⟩
instance : TArray Try.prog 107 2 59 := ⟨by kernel_rfl⟩
instance : TOne Try.prog 108 := ⟨fun _ => by kernel_rfl⟩
instance : TZero Try.prog 108 (.map none) [.map none] := ⟨by kernel_rfl, rfl⟩
instance : TSize Try.prog 108 1 8 := ⟨by kernel_rfl⟩
instance : TMap Try.prog 108 3 4 := ⟨by kernel_rfl⟩
instance : TAgg Try.prog 109 3 := ⟨fun _ => by kernel_rfl, by kernel_rfl⟩
instance : TZero Try.prog 109 (.agg #[.pointer none, .pointer none, .map none]) [.pointer none, .pointer none, .map none] := ⟨by kernel_rfl, rfl⟩
instance : TSize Try.prog 109 3 24 := ⟨by kernel_rfl⟩
instance : TField Try.prog 109 0 107 0 := ⟨fun _ _ => by kernel_rfl⟩
instance : TPartN Try.prog 109 0 0 2 := ⟨fun _ _ => by kernel_rfl⟩
instance : TField Try.prog 109 1 108 2 := ⟨fun _ _ => by kernel_rfl⟩
instance : TPart1 Try.prog 109 1 2 := ⟨fun _ _ => by kernel_rfl⟩
instance : TBuild Try.prog 109 [(0, 2), (2, 1)] [.pointer none, .pointer none, .map none] := ⟨fun _ => by kernel_rfl⟩
instance : TAgg Try.prog 110 3 := ⟨fun _ => by kernel_rfl, by kernel_rfl⟩
instance : TZero Try.prog 110 (.agg #[.pointer none, .pointer none, .map none]) [.pointer none, .pointer none, .map none] := ⟨by kernel_rfl, rfl⟩
instance : TSize Try.prog 110 3 24 := ⟨by kernel_rfl⟩
instance : TField Try.prog 110 0 107 0 := ⟨fun _ _ => by kernel_rfl⟩
instance : TPartN Try.prog 110 0 0 2 := ⟨fun _ _ => by kernel_rfl⟩
instance : TField Try.prog 110 1 108 2 := ⟨fun _ _ => by kernel_rfl⟩
instance : TPart1 Try.prog 110 1 2 := ⟨fun _ _ => by kernel_rfl⟩
instance : TBuild Try.prog 110 [(0, 2), (2, 1)] [.pointer none, .pointer none, .map none] := ⟨fun _ => by kernel_rfl⟩
instance : TOne Try.prog 111 := ⟨fun _ => by kernel_rfl⟩
instance : TZero Try.prog 111 (.nilFunc) [.nilFunc] := ⟨by kernel_rfl, rfl⟩
instance : TSize Try.prog 111 1 8 := ⟨by kernel_rfl⟩
instance : TOne Try.prog 113 := ⟨fun _ => by kernel_rfl⟩
instance : TZero Try.prog 113 (.nilFunc) [.nilFunc] := ⟨by kernel_rfl, rfl⟩
instance : TSize Try.prog 113 1 8 := ⟨by kernel_rfl⟩
instance : TOne Try.prog 114 := ⟨fun _ => by kernel_rfl⟩
instance : TZero Try.prog 114 (.nilFunc) [.nilFunc] := ⟨by kernel_rfl, rfl⟩
instance : TSize Try.prog 114 1 8 := ⟨by kernel_rfl⟩
instance : TOne Try.prog 115 := ⟨fun _ => by kernel_rfl⟩
instance : TZero Try.prog 115 (.nilFunc) [.nilFunc] := ⟨by kernel_rfl, rfl⟩
instance : TSize Try.prog 115 1 8 := ⟨by kernel_rfl⟩
instance : TOne Try.prog 116 := ⟨fun _ => by kernel_rfl⟩
instance : TZero Try.prog 116 (.nilFunc) [.nilFunc] := ⟨by kernel_rfl, rfl⟩
instance : TSize Try.prog 116 1 8 := ⟨by kernel_rfl⟩
instance : TOne Try.prog 117 := ⟨fun _ => by kernel_rfl⟩
instance : TZero Try.prog 117 (.nilFunc) [.nilFunc] := ⟨by kernel_rfl, rfl⟩
instance : TSize Try.prog 117 1 8 := ⟨by kernel_rfl⟩
instance : TOne Try.prog 118 := ⟨fun _ => by kernel_rfl⟩
instance : TZero Try.prog 118 (.nilFunc) [.nilFunc] := ⟨by kernel_rfl, rfl⟩
instance : TSize Try.prog 118 1 8 := ⟨by kernel_rfl⟩
instance : TAgg Try.prog 119 2 := ⟨fun _ => by kernel_rfl, by kernel_rfl⟩
instance : TZero Try.prog 119 (.agg #[.int .u64 0, .int .i64 0]) [.int .u64 0, .int .i64 0] := ⟨by kernel_rfl, rfl⟩
instance : TSize Try.prog 119 2 16 := ⟨by kernel_rfl⟩
instance : TField Try.prog 119 0 53 0 := ⟨fun _ _ => by kernel_rfl⟩
instance : TPart1 Try.prog 119 0 0 := ⟨fun _ _ => by kernel_rfl⟩
instance : TField Try.prog 119 1 3 1 := ⟨fun _ _ => by kernel_rfl⟩
instance : TPart1 Try.prog 119 1 1 := ⟨fun _ _ => by kernel_rfl⟩
instance : TBuild Try.prog 119 [(0, 1), (1, 1)] [.int .u64 0, .int .i64 0] := ⟨fun _ => by kernel_rfl⟩
instance : TAgg Try.prog 120 2 := ⟨fun _ => by kernel_rfl, by kernel_rfl⟩
instance : TZero Try.prog 120 (.agg #[.int .u64 0, .int .i64 0]) [.int .u64 0, .int .i64 0] := ⟨by kernel_rfl, rfl⟩
instance : TSize Try.prog 120 2 16 := ⟨by kernel_rfl⟩
instance : TField Try.prog 120 0 53 0 := ⟨fun _ _ => by kernel_rfl⟩
instance : TPart1 Try.prog 120 0 0 := ⟨fun _ _ => by kernel_rfl⟩
instance : TField Try.prog 120 1 3 1 := ⟨fun _ _ => by kernel_rfl⟩
instance : TPart1 Try.prog 120 1 1 := ⟨fun _ _ => by kernel_rfl⟩
instance : TBuild Try.prog 120 [(0, 1), (1, 1)] [.int .u64 0, .int .i64 0] := ⟨fun _ => by kernel_rfl⟩
instance : TOne Try.prog 121 := ⟨fun _ => by kernel_rfl⟩
instance : TZero Try.prog 121 (.slice none 0 0) [.slice none 0 0] := ⟨by kernel_rfl, rfl⟩
instance : TSize Try.prog 121 1 24 := ⟨by kernel_rfl⟩
instance : TSlice Try.prog 121 120 := ⟨by kernel_rfl⟩
instance : TOne Try.prog 122 := ⟨fun _ => by kernel_rfl⟩
instance : TZero Try.prog 122 (.nilFunc) [.nilFunc] := ⟨by kernel_rfl, rfl⟩
instance : TSize Try.prog 122 1 8 := ⟨by kernel_rfl⟩
instance : TOne Try.prog 123 := ⟨fun _ => by kernel_rfl⟩
instance : TZero Try.prog 123 (.nilFunc) [.nilFunc] := ⟨by kernel_rfl, rfl⟩
instance : TSize Try.prog 123 1 8 := ⟨by kernel_rfl⟩
instance : TOne Try.prog 124 := ⟨fun _ => by kernel_rfl⟩
instance : TZero Try.prog 124 (.nilFunc) [.nilFunc] := ⟨by kernel_rfl, rfl⟩
instance : TSize Try.prog 124 1 8 := ⟨by kernel_rfl⟩
instance : TAgg Try.prog 125 3 := ⟨fun _ => by kernel_rfl, by kernel_rfl⟩
instance : TZero Try.prog 125 (.agg #[.int .u64 0, .int .i64 0, .bool false]) [.int .u64 0, .int .i64 0, .bool false] := ⟨by kernel_rfl, rfl⟩
instance : TSize Try.prog 125 3 24 := ⟨by kernel_rfl⟩
instance : TField Try.prog 125 0 120 0 := ⟨fun _ _ => by kernel_rfl⟩
instance : TPartN Try.prog 125 0 0 2 := ⟨fun _ _ => by kernel_rfl⟩
instance : TField Try.prog 125 1 4 2 := ⟨fun _ _ => by kernel_rfl⟩
instance : TPart1 Try.prog 125 1 2 := ⟨fun _ _ => by kernel_rfl⟩
instance : TBuild Try.prog 125 [(0, 2), (2, 1)] [.int .u64 0, .int .i64 0, .bool false] := ⟨fun _ => by kernel_rfl⟩
instance : TOne Try.prog 126 := ⟨fun _ => by kernel_rfl⟩
instance : TZero Try.prog 126 (.nilFunc) [.nilFunc] := ⟨by kernel_rfl, rfl⟩
instance : TSize Try.prog 126 1 8 := ⟨by kernel_rfl⟩
instance : TOne Try.prog 127 := ⟨fun _ => by kernel_rfl⟩
instance : TZero Try.prog 127 (.nilFunc) [.nilFunc] := ⟨by kernel_rfl, rfl⟩
instance : TSize Try.prog 127 1 8 := ⟨by kernel_rfl⟩
instance : TOne Try.prog 128 := ⟨fun _ => by kernel_rfl⟩
instance : TZero Try.prog 128 (.nilFunc) [.nilFunc] := ⟨by kernel_rfl, rfl⟩
instance : TSize Try.prog 128 1 8 := ⟨by kernel_rfl⟩
instance : TOne Try.prog 129 := ⟨fun _ => by kernel_rfl⟩
instance : TZero Try.prog 129 (.nilFunc) [.nilFunc] := ⟨by kernel_rfl, rfl⟩
instance : TSize Try.prog 129 1 8 := ⟨by kernel_rfl⟩
instance : TOne Try.prog 130 := ⟨fun _ => by kernel_rfl⟩
instance : TZero Try.prog 130 (.nilFunc) [.nilFunc] := ⟨by kernel_rfl, rfl⟩
instance : TSize Try.prog 130 1 8 := ⟨by kernel_rfl⟩
instance : TOne Try.prog 131 := ⟨fun _ => by kernel_rfl⟩
instance : TZero Try.prog 131 (.nilFunc) [.nilFunc] := ⟨by kernel_rfl, rfl⟩
instance : TSize Try.prog 131 1 8 := ⟨by kernel_rfl⟩
instance : TOne Try.prog 132 := ⟨fun _ => by kernel_rfl⟩
instance : TZero Try.prog 132 (.nilFunc) [.nilFunc] := ⟨by kernel_rfl, rfl⟩
instance : TSize Try.prog 132 1 8 := ⟨by kernel_rfl⟩
instance : TOne Try.prog 133 := ⟨fun _ => by kernel_rfl⟩
instance : TZero Try.prog 133 (.pointer none) [.pointer none] := ⟨by kernel_rfl, rfl⟩
instance : TSize Try.prog 133 1 8 := ⟨by kernel_rfl⟩
instance : TPtr Try.prog 133 136 := ⟨by kernel_rfl⟩
instance : TAgg Try.prog 134 2 := ⟨fun _ => by kernel_rfl, by kernel_rfl⟩
instance : TZero Try.prog 134 (.agg #[.pointer none, .pointer none]) [.pointer none, .pointer none] := ⟨by kernel_rfl, rfl⟩
instance : TSize Try.prog 134 2 16 := ⟨by kernel_rfl⟩
instance : TArray Try.prog 134 2 133 := ⟨by kernel_rfl⟩
instance : TAgg Try.prog 135 4 := ⟨fun _ => by kernel_rfl, by kernel_rfl⟩
instance : TZero Try.prog 135 (.agg #[.pointer none, .pointer none, .bool false, .int .i64 0]) [.pointer none, .pointer none, .bool false, .int .i64 0] := ⟨by kernel_rfl, rfl⟩
instance : TSize Try.prog 135 4 32 := ⟨by kernel_rfl⟩
instance : TField Try.prog 135 0 134 0 := ⟨fun _ _ => by kernel_rfl⟩
instance : TPartN Try.prog 135 0 0 2 := ⟨fun _ _ => by kernel_rfl⟩
instance : TField Try.prog 135 1 4 2 := ⟨fun _ _ => by kernel_rfl⟩
instance : TPart1 Try.prog 135 1 2 := ⟨fun _ _ => by kernel_rfl⟩
instance : TField Try.prog 135 2 3 3 := ⟨fun _ _ => by kernel_rfl⟩
instance : TPart1 Try.prog 135 2 3 := ⟨fun _ _ => by kernel_rfl⟩
instance : TBuild Try.prog 135 [(0, 2), (2, 1), (3, 1)] [.pointer none, .pointer none, .bool false, .int .i64 0] := ⟨fun _ => by kernel_rfl⟩
instance : TAgg Try.prog 136 4 := ⟨fun _ => by kernel_rfl, by kernel_rfl⟩
instance : TZero Try.prog 136 (.agg #[.pointer none, .pointer none, .bool false, .int .i64 0]) [.pointer none, .pointer none, .bool false, .int .i64 0] := ⟨by kernel_rfl, rfl⟩
instance : TSize Try.prog 136 4 32 := ⟨by kernel_rfl⟩
instance : TField Try.prog 136 0 134 0 := ⟨fun _ _ => by kernel_rfl⟩
instance : TPartN Try.prog 136 0 0 2 := ⟨fun _ _ => by kernel_rfl⟩
instance : TField Try.prog 136 1 4 2 := ⟨fun _ _ => by kernel_rfl⟩
instance : TPart1 Try.prog 136 1 2 := ⟨fun _ _ => by kernel_rfl⟩
instance : TField Try.prog 136 2 3 3 := ⟨fun _ _ => by kernel_rfl⟩
instance : TPart1 Try.prog 136 2 3 := ⟨fun _ _ => by kernel_rfl⟩
instance : TBuild Try.prog 136 [(0, 2), (2, 1), (3, 1)] [.pointer none, .pointer none, .bool false, .int .i64 0] := ⟨fun _ => by kernel_rfl⟩
instance : TAgg Try.prog 137 5 := ⟨fun _ => by kernel_rfl, by kernel_rfl⟩
instance : TZero Try.prog 137 (.agg #[.pointer none, .pointer none, .bool false, .int .i64 0, .int .i64 0]) [.pointer none, .pointer none, .bool false, .int .i64 0, .int .i64 0] := ⟨by kernel_rfl, rfl⟩
instance : TSize Try.prog 137 5 40 := ⟨by kernel_rfl⟩
instance : TField Try.prog 137 0 136 0 := ⟨fun _ _ => by kernel_rfl⟩
instance : TPartN Try.prog 137 0 0 4 := ⟨fun _ _ => by kernel_rfl⟩
instance : TField Try.prog 137 1 3 4 := ⟨fun _ _ => by kernel_rfl⟩
instance : TPart1 Try.prog 137 1 4 := ⟨fun _ _ => by kernel_rfl⟩
instance : TBuild Try.prog 137 [(0, 4), (4, 1)] [.pointer none, .pointer none, .bool false, .int .i64 0, .int .i64 0] := ⟨fun _ => by kernel_rfl⟩
instance : TAgg Try.prog 138 5 := ⟨fun _ => by kernel_rfl, by kernel_rfl⟩
instance : TZero Try.prog 138 (.agg #[.pointer none, .pointer none, .bool false, .int .i64 0, .int .i64 0]) [.pointer none, .pointer none, .bool false, .int .i64 0, .int .i64 0] := ⟨by kernel_rfl, rfl⟩
instance : TSize Try.prog 138 5 40 := ⟨by kernel_rfl⟩
instance : TField Try.prog 138 0 136 0 := ⟨fun _ _ => by kernel_rfl⟩
instance : TPartN Try.prog 138 0 0 4 := ⟨fun _ _ => by kernel_rfl⟩
instance : TField Try.prog 138 1 3 4 := ⟨fun _ _ => by kernel_rfl⟩
instance : TPart1 Try.prog 138 1 4 := ⟨fun _ _ => by kernel_rfl⟩
instance : TBuild Try.prog 138 [(0, 4), (4, 1)] [.pointer none, .pointer none, .bool false, .int .i64 0, .int .i64 0] := ⟨fun _ => by kernel_rfl⟩
instance : TAgg Try.prog 139 1 := ⟨fun _ => by kernel_rfl, by kernel_rfl⟩
instance : TZero Try.prog 139 (.agg #[.slice none 0 0]) [.slice none 0 0] := ⟨by kernel_rfl, rfl⟩
instance : TSize Try.prog 139 1 24 := ⟨by kernel_rfl⟩
instance : TField Try.prog 139 0 22 0 := ⟨fun _ _ => by kernel_rfl⟩
instance : TPart1 Try.prog 139 0 0 := ⟨fun _ _ => by kernel_rfl⟩
instance : TBuild Try.prog 139 [(0, 1)] [.slice none 0 0] := ⟨fun _ => by kernel_rfl⟩
instance : TAgg Try.prog 140 1 := ⟨fun _ => by kernel_rfl, by kernel_rfl⟩
instance : TZero Try.prog 140 (.agg #[.slice none 0 0]) [.slice none 0 0] := ⟨by kernel_rfl, rfl⟩
instance : TSize Try.prog 140 1 24 := ⟨by kernel_rfl⟩
instance : TField Try.prog 140 0 22 0 := ⟨fun _ _ => by kernel_rfl⟩
instance : TPart1 Try.prog 140 0 0 := ⟨fun _ _ => by kernel_rfl⟩
instance : TBuild Try.prog 140 [(0, 1)] [.slice none 0 0] := ⟨fun _ => by kernel_rfl⟩
instance : TOne Try.prog 141 := ⟨fun _ => by kernel_rfl⟩
instance : TZero Try.prog 141 (.nilFunc) [.nilFunc] := ⟨by kernel_rfl, rfl⟩
instance : TSize Try.prog 141 1 8 := ⟨by kernel_rfl⟩
instance : TOne Try.prog 142 := ⟨fun _ => by kernel_rfl⟩
instance : TZero Try.prog 142 (.nilFunc) [.nilFunc] := ⟨by kernel_rfl, rfl⟩
instance : TSize Try.prog 142 1 8 := ⟨by kernel_rfl⟩
instance : TInt Try.prog 143 .u64 := ⟨by kernel_rfl⟩
instance : TOne Try.prog 143 := ⟨fun _ => by kernel_rfl⟩
instance : TZero Try.prog 143 (.int .u64 0) [.int .u64 0] := ⟨by kernel_rfl, rfl⟩
instance : TSize Try.prog 143 1 8 := ⟨by kernel_rfl⟩
instance : TOne Try.prog 144 := ⟨fun _ => by kernel_rfl⟩
instance : TZero Try.prog 144 (.nilFunc) [.nilFunc] := ⟨by kernel_rfl, rfl⟩
instance : TSize Try.prog 144 1 8 := ⟨by kernel_rfl⟩
instance : TOne Try.prog 145 := ⟨fun _ => by kernel_rfl⟩
instance : TZero Try.prog 145 (.nilFunc) [.nilFunc] := ⟨by kernel_rfl, rfl⟩
instance : TSize Try.prog 145 1 8 := ⟨by kernel_rfl⟩
instance : TOne Try.prog 146 := ⟨fun _ => by kernel_rfl⟩
instance : TZero Try.prog 146 (.nilFunc) [.nilFunc] := ⟨by kernel_rfl, rfl⟩
instance : TSize Try.prog 146 1 8 := ⟨by kernel_rfl⟩
instance : TOne Try.prog 147 := ⟨fun _ => by kernel_rfl⟩
instance : TZero Try.prog 147 (.nilFunc) [.nilFunc] := ⟨by kernel_rfl, rfl⟩
instance : TSize Try.prog 147 1 8 := ⟨by kernel_rfl⟩
instance : TOne Try.prog 148 := ⟨fun _ => by kernel_rfl⟩
instance : TZero Try.prog 148 (.nilFunc) [.nilFunc] := ⟨by kernel_rfl, rfl⟩
instance : TSize Try.prog 148 1 8 := ⟨by kernel_rfl⟩
instance : TAgg Try.prog 149 2 := ⟨fun _ => by kernel_rfl, by kernel_rfl⟩
instance : TZero Try.prog 149 (.agg #[.int .u64 0, .int .u64 0]) [.int .u64 0, .int .u64 0] := ⟨by kernel_rfl, rfl⟩
instance : TSize Try.prog 149 2 16 := ⟨by kernel_rfl⟩
instance : TField Try.prog 149 0 53 0 := ⟨fun _ _ => by kernel_rfl⟩
instance : TPart1 Try.prog 149 0 0 := ⟨fun _ _ => by kernel_rfl⟩
instance : TField Try.prog 149 1 53 1 := ⟨fun _ _ => by kernel_rfl⟩
instance : TPart1 Try.prog 149 1 1 := ⟨fun _ _ => by kernel_rfl⟩
instance : TBuild Try.prog 149 [(0, 1), (1, 1)] [.int .u64 0, .int .u64 0] := ⟨fun _ => by kernel_rfl⟩
instance : TAgg Try.prog 150 2 := ⟨fun _ => by kernel_rfl, by kernel_rfl⟩
instance : TZero Try.prog 150 (.agg #[.int .u64 0, .int .u64 0]) [.int .u64 0, .int .u64 0] := ⟨by kernel_rfl, rfl⟩
instance : TSize Try.prog 150 2 16 := ⟨by kernel_rfl⟩
instance : TField Try.prog 150 0 53 0 := ⟨fun _ _ => by kernel_rfl⟩
instance : TPart1 Try.prog 150 0 0 := ⟨fun _ _ => by kernel_rfl⟩
instance : TField Try.prog 150 1 53 1 := ⟨fun _ _ => by kernel_rfl⟩
instance : TPart1 Try.prog 150 1 1 := ⟨fun _ _ => by kernel_rfl⟩
instance : TBuild Try.prog 150 [(0, 1), (1, 1)] [.int .u64 0, .int .u64 0] := ⟨fun _ => by kernel_rfl⟩
instance : TOne Try.prog 151 := ⟨fun _ => by kernel_rfl⟩
instance : TZero Try.prog 151 (.slice none 0 0) [.slice none 0 0] := ⟨by kernel_rfl, rfl⟩
instance : TSize Try.prog 151 1 24 := ⟨by kernel_rfl⟩
instance : TSlice Try.prog 151 150 := ⟨by kernel_rfl⟩
instance : TOne Try.prog 152 := ⟨fun _ => by kernel_rfl⟩
instance : TZero Try.prog 152 (.nilFunc) [.nilFunc] := ⟨by kernel_rfl, rfl⟩
instance : TSize Try.prog 152 1 8 := ⟨by kernel_rfl⟩
instance : TOne Try.prog 153 := ⟨fun _ => by kernel_rfl⟩
instance : TZero Try.prog 153 (.nilFunc) [.nilFunc] := ⟨by kernel_rfl, rfl⟩
instance : TSize Try.prog 153 1 8 := ⟨by kernel_rfl⟩
instance : TOne Try.prog 154 := ⟨fun _ => by kernel_rfl⟩
instance : TZero Try.prog 154 (.nilFunc) [.nilFunc] := ⟨by kernel_rfl, rfl⟩
instance : TSize Try.prog 154 1 8 := ⟨by kernel_rfl⟩
instance : TOne Try.prog 155 := ⟨fun _ => by kernel_rfl⟩
instance : TZero Try.prog 155 (.nilFunc) [.nilFunc] := ⟨by kernel_rfl, rfl⟩
instance : TSize Try.prog 155 1 8 := ⟨by kernel_rfl⟩
instance : TOne Try.prog 156 := ⟨fun _ => by kernel_rfl⟩
instance : TZero Try.prog 156 (.nilFunc) [.nilFunc] := ⟨by kernel_rfl, rfl⟩
instance : TSize Try.prog 156 1 8 := ⟨by kernel_rfl⟩
instance : TOne Try.prog 157 := ⟨fun _ => by kernel_rfl⟩
instance : TZero Try.prog 157 (.nilFunc) [.nilFunc] := ⟨by kernel_rfl, rfl⟩
instance : TSize Try.prog 157 1 8 := ⟨by kernel_rfl⟩
instance : TOne Try.prog 158 := ⟨fun _ => by kernel_rfl⟩
instance : TZero Try.prog 158 (.nilFunc) [.nilFunc] := ⟨by kernel_rfl, rfl⟩
instance : TSize Try.prog 158 1 8 := ⟨by kernel_rfl⟩
instance : TOne Try.prog 160 := ⟨fun _ => by kernel_rfl⟩
instance : TZero Try.prog 160 (.nilFunc) [.nilFunc] := ⟨by kernel_rfl, rfl⟩
instance : TSize Try.prog 160 1 8 := ⟨by kernel_rfl⟩
instance : TOne Try.prog 161 := ⟨fun _ => by kernel_rfl⟩
instance : TZero Try.prog 161 (.pointer none) [.pointer none] := ⟨by kernel_rfl, rfl⟩
instance : TSize Try.prog 161 1 8 := ⟨by kernel_rfl⟩
instance : TPtr Try.prog 161 140 := ⟨by kernel_rfl⟩
instance : TOne Try.prog 162 := ⟨fun _ => by kernel_rfl⟩
instance : TZero Try.prog 162 (.nilFunc) [.nilFunc] := ⟨by kernel_rfl, rfl⟩
instance : TSize Try.prog 162 1 8 := ⟨by kernel_rfl⟩
instance : TOne Try.prog 163 := ⟨fun _ => by kernel_rfl⟩
instance : TZero Try.prog 163 (.nilFunc) [.nilFunc] := ⟨by kernel_rfl, rfl⟩
instance : TSize Try.prog 163 1 8 := ⟨by kernel_rfl⟩
instance : TOne Try.prog 164 := ⟨fun _ => by kernel_rfl⟩
instance : TZero Try.prog 164 (.nilFunc) [.nilFunc] := ⟨by kernel_rfl, rfl⟩
instance : TSize Try.prog 164 1 8 := ⟨by kernel_rfl⟩
instance : TOne Try.prog 165 := ⟨fun _ => by kernel_rfl⟩
instance : TZero Try.prog 165 (.nilFunc) [.nilFunc] := ⟨by kernel_rfl, rfl⟩
instance : TSize Try.prog 165 1 8 := ⟨by kernel_rfl⟩
instance : TInt Try.prog 166 .i64 := ⟨by kernel_rfl⟩
instance : TOne Try.prog 166 := ⟨fun _ => by kernel_rfl⟩
instance : TZero Try.prog 166 (.int .i64 0) [.int .i64 0] := ⟨by kernel_rfl, rfl⟩
instance : TSize Try.prog 166 1 8 := ⟨by kernel_rfl⟩
instance : TOne Try.prog 168 := ⟨fun _ => by kernel_rfl⟩
instance : TZero Try.prog 168 (.nilFunc) [.nilFunc] := ⟨by kernel_rfl, rfl⟩
instance : TSize Try.prog 168 1 8 := ⟨by kernel_rfl⟩
instance : TOne Try.prog 169 := ⟨fun _ => by kernel_rfl⟩
instance : TZero Try.prog 169 (.nilFunc) [.nilFunc] := ⟨by kernel_rfl, rfl⟩
instance : TSize Try.prog 169 1 8 := ⟨by kernel_rfl⟩
instance : TOne Try.prog 170 := ⟨fun _ => by kernel_rfl⟩
instance : TZero Try.prog 170 (.nilFunc) [.nilFunc] := ⟨by kernel_rfl, rfl⟩
instance : TSize Try.prog 170 1 8 := ⟨by kernel_rfl⟩
instance : TOne Try.prog 171 := ⟨fun _ => by kernel_rfl⟩
instance : TZero Try.prog 171 (.nilFunc) [.nilFunc] := ⟨by kernel_rfl, rfl⟩
instance : TSize Try.prog 171 1 8 := ⟨by kernel_rfl⟩
instance : TOne Try.prog 172 := ⟨fun _ => by kernel_rfl⟩
instance : TZero Try.prog 172 (.nilFunc) [.nilFunc] := ⟨by kernel_rfl, rfl⟩
instance : TSize Try.prog 172 1 8 := ⟨by kernel_rfl⟩
instance : TOne Try.prog 173 := ⟨fun _ => by kernel_rfl⟩
instance : TZero Try.prog 173 (.nilFunc) [.nilFunc] := ⟨by kernel_rfl, rfl⟩
instance : TSize Try.prog 173 1 8 := ⟨by kernel_rfl⟩
instance : TOne Try.prog 174 := ⟨fun _ => by kernel_rfl⟩
instance : TZero Try.prog 174 (.nilFunc) [.nilFunc] := ⟨by kernel_rfl, rfl⟩
instance : TSize Try.prog 174 1 8 := ⟨by kernel_rfl⟩
instance : TInt Try.prog 175 .u64 := ⟨by kernel_rfl⟩
instance : TOne Try.prog 175 := ⟨fun _ => by kernel_rfl⟩
instance : TZero Try.prog 175 (.int .u64 0) [.int .u64 0] := ⟨by kernel_rfl, rfl⟩
instance : TSize Try.prog 175 1 8 := ⟨by kernel_rfl⟩
instance : TOne Try.prog 176 := ⟨fun _ => by kernel_rfl⟩
instance : TZero Try.prog 176 (.nilFunc) [.nilFunc] := ⟨by kernel_rfl, rfl⟩
instance : TSize Try.prog 176 1 8 := ⟨by kernel_rfl⟩
instance : TOne Try.prog 177 := ⟨fun _ => by kernel_rfl⟩
instance : TZero Try.prog 177 (.nilFunc) [.nilFunc] := ⟨by kernel_rfl, rfl⟩
instance : TSize Try.prog 177 1 8 := ⟨by kernel_rfl⟩
instance : TOne Try.prog 178 := ⟨fun _ => by kernel_rfl⟩
instance : TZero Try.prog 178 (.pointer none) [.pointer none] := ⟨by kernel_rfl, rfl⟩
instance : TSize Try.prog 178 1 8 := ⟨by kernel_rfl⟩
instance : TPtr Try.prog 178 3 := ⟨by kernel_rfl⟩
instance : TOne Try.prog 179 := ⟨fun _ => by kernel_rfl⟩
instance : TZero Try.prog 179 (.nilFunc) [.nilFunc] := ⟨by kernel_rfl, rfl⟩
instance : TSize Try.prog 179 1 8 := ⟨by kernel_rfl⟩
instance : TOne Try.prog 180 := ⟨fun _ => by kernel_rfl⟩
instance : TZero Try.prog 180 (.nilFunc) [.nilFunc] := ⟨by kernel_rfl, rfl⟩
instance : TSize Try.prog 180 1 8 := ⟨by kernel_rfl⟩
instance : TOne Try.prog 181 := ⟨fun _ => by kernel_rfl⟩
instance : TZero Try.prog 181 (.pointer none) [.pointer none] := ⟨by kernel_rfl, rfl⟩
instance : TSize Try.prog 181 1 8 := ⟨by kernel_rfl⟩
instance : TPtr Try.prog 181 175 := ⟨by kernel_rfl⟩
instance : TOne Try.prog 182 := ⟨fun _ => by kernel_rfl⟩
instance : TZero Try.prog 182 (.nilFunc) [.nilFunc] := ⟨by kernel_rfl, rfl⟩
instance : TSize Try.prog 182 1 8 := ⟨by kernel_rfl⟩
instance : TOne Try.prog 183 := ⟨fun _ => by kernel_rfl⟩
instance : TZero Try.prog 183 (.nilFunc) [.nilFunc] := ⟨by kernel_rfl, rfl⟩
instance : TSize Try.prog 183 1 8 := ⟨by kernel_rfl⟩
instance : TOne Try.prog 189 := ⟨fun _ => by kernel_rfl⟩
instance : TZero Try.prog 189 (.nilFunc) [.nilFunc] := ⟨by kernel_rfl, rfl⟩
instance : TSize Try.prog 189 1 8 := ⟨by kernel_rfl⟩
instance : TOne Try.prog 193 := ⟨fun _ => by kernel_rfl⟩
instance : TZero Try.prog 193 (.pointer none) [.pointer none] := ⟨by kernel_rfl, rfl⟩
instance : TSize Try.prog 193 1 8 := ⟨by kernel_rfl⟩
instance : TPtr Try.prog 193 5 := ⟨by kernel_rfl⟩
instance : TFun Try.prog 3 := ⟨fun _ _ => by kernel_rfl⟩      -- routing/routingtop.TopTables
instance : TFun Try.prog 4 := ⟨fun _ _ => by kernel_rfl⟩      -- routing/routinglaw08.StrideBuilds
instance : TFun Try.prog 5 := ⟨fun _ _ => by kernel_rfl⟩      -- routing/routinglaw08.StrideLookups
instance : TFun Try.prog 6 := ⟨fun _ _ => by kernel_rfl⟩      -- routing/routinglaw08.StrideCanonical
instance : TFun Try.prog 7 := ⟨fun _ _ => by kernel_rfl⟩      -- routing/routinglaw08.StrideBack
instance : TFun Try.prog 8 := ⟨fun _ _ => by kernel_rfl⟩      -- routing/routinglaw08.StrideReads
instance : TFun Try.prog 9 := ⟨fun _ _ => by kernel_rfl⟩      -- routing/routingtop.lives04
instance : TFun Try.prog 10 := ⟨fun _ _ => by kernel_rfl⟩      -- routing/aggregate.Minimal
instance : TFun Try.prog 11 := ⟨fun _ _ => by kernel_rfl⟩      -- routing/aggregate.Trim
instance : TFun Try.prog 12 := ⟨fun _ _ => by kernel_rfl⟩      -- routing/stride.Build
instance : TFun Try.prog 13 := ⟨fun _ _ => by kernel_rfl⟩      -- routing/aggregate.Check
instance : TFun Try.prog 14 := ⟨fun _ _ => by kernel_rfl⟩      -- routing/trie.Of
instance : TFun Try.prog 15 := ⟨fun _ _ => by kernel_rfl⟩      -- (*routing/trie.Trie).Lookup
instance : TFun Try.prog 16 := ⟨fun _ _ => by kernel_rfl⟩      -- routing/stride.Lookup
instance : TFun Try.prog 17 := ⟨fun _ _ => by kernel_rfl⟩      -- routing/aggregate.Lookup
instance : TFun Try.prog 18 := ⟨fun _ _ => by kernel_rfl⟩      -- routing/routinglaw08.awake
instance : TFun Try.prog 19 := ⟨fun _ _ => by kernel_rfl⟩      -- routing/routingref08.Build
instance : TFun Try.prog 20 := ⟨fun _ _ => by kernel_rfl⟩      -- routing/routinglaw08.same
instance : TFun Try.prog 21 := ⟨fun _ _ => by kernel_rfl⟩      -- routing/routingref07.Check
instance : TFun Try.prog 22 := ⟨fun _ _ => by kernel_rfl⟩      -- routing/routingref07.Lookup
instance : TFun Try.prog 23 := ⟨fun _ _ => by kernel_rfl⟩      -- routing/routingref07.Same
instance : TFun Try.prog 24 := ⟨fun _ _ => by kernel_rfl⟩      -- routing/stride.Table
instance : TFun Try.prog 25 := ⟨fun _ _ => by kernel_rfl⟩      -- routing/routinglaw08.large
instance : TFun Try.prog 26 := ⟨fun _ _ => by kernel_rfl⟩      -- routing/routingref08.Lookup
instance : TFun Try.prog 27 := ⟨fun _ _ => by kernel_rfl⟩      -- routing/stride.Size
instance : TFun Try.prog 28 := ⟨fun _ _ => by kernel_rfl⟩      -- routing/routingref08.Table
instance : TFun Try.prog 29 := ⟨fun _ _ => by kernel_rfl⟩      -- routing/stride.Check
instance : TFun Try.prog 30 := ⟨fun _ _ => by kernel_rfl⟩      -- routing/routingref08.Check
instance : TFun Try.prog 31 := ⟨fun _ _ => by kernel_rfl⟩      -- routing/routingref03.SameEntries
instance : TFun Try.prog 32 := ⟨fun _ _ => by kernel_rfl⟩      -- routing/aggregate.choose
instance : TFun Try.prog 33 := ⟨fun _ _ => by kernel_rfl⟩      -- routing/aggregate.grow
instance : TFun Try.prog 34 := ⟨fun _ _ => by kernel_rfl⟩      -- routing/aggregate.visible
instance : TFun Try.prog 35 := ⟨fun _ _ => by kernel_rfl⟩      -- routing/aggregate.above
instance : TFun Try.prog 36 := ⟨fun _ _ => by kernel_rfl⟩      -- routing/stride.compress
instance : TFun Try.prog 37 := ⟨fun _ _ => by kernel_rfl⟩      -- routing/stride.runs
instance : TFun Try.prog 38 := ⟨fun _ _ => by kernel_rfl⟩      -- routing/prefix.Valid
instance : TFun Try.prog 39 := ⟨fun _ _ => by kernel_rfl⟩      -- routing/prefix.Compare
instance : TFun Try.prog 40 := ⟨fun _ _ => by kernel_rfl⟩      -- routing/trie.New
instance : TFun Try.prog 41 := ⟨fun _ _ => by kernel_rfl⟩      -- (*routing/trie.Trie).Put
instance : TFun Try.prog 42 := ⟨fun _ _ => by kernel_rfl⟩      -- (*routing/trie.Trie).Above
instance : TFun Try.prog 43 := ⟨fun _ _ => by kernel_rfl⟩      -- routing/stride.digit
instance : TFun Try.prog 44 := ⟨fun _ _ => by kernel_rfl⟩      -- routing/stride.leaf
instance : TFun Try.prog 45 := ⟨fun _ _ => by kernel_rfl⟩      -- routing/bits.Rank
instance : TFun Try.prog 46 := ⟨fun _ _ => by kernel_rfl⟩      -- routing/prefix.Contains
instance : TFun Try.prog 47 := ⟨fun _ _ => by kernel_rfl⟩      -- routing/routingref07.Bounds
instance : TFun Try.prog 48 := ⟨fun _ _ => by kernel_rfl⟩      -- routing/routingref08.block
instance : TFun Try.prog 49 := ⟨fun _ _ => by kernel_rfl⟩      -- routing/routingref08.uniform
instance : TFun Try.prog 50 := ⟨fun _ _ => by kernel_rfl⟩      -- routing/routingref03.SameNodes
instance : TFun Try.prog 51 := ⟨fun _ _ => by kernel_rfl⟩      -- routing/routingref03.SameInts
instance : TFun Try.prog 52 := ⟨fun _ _ => by kernel_rfl⟩      -- routing/routingref02.Valid
instance : TFun Try.prog 53 := ⟨fun _ _ => by kernel_rfl⟩      -- routing/routingref02.Compare
instance : TFun Try.prog 54 := ⟨fun _ _ => by kernel_rfl⟩      -- routing/routingref07.lookup
instance : TFun Try.prog 55 := ⟨fun _ _ => by kernel_rfl⟩      -- routing/routingref07.Differ
instance : TFun Try.prog 56 := ⟨fun _ _ => by kernel_rfl⟩      -- routing/stride.decode
instance : TFun Try.prog 57 := ⟨fun _ _ => by kernel_rfl⟩      -- routing/stride.pieces
instance : TFun Try.prog 58 := ⟨fun _ _ => by kernel_rfl⟩      -- routing/routingref08.digit
instance : TFun Try.prog 59 := ⟨fun _ _ => by kernel_rfl⟩      -- routing/routingref08.leaf
instance : TFun Try.prog 60 := ⟨fun _ _ => by kernel_rfl⟩      -- routing/routingref08.ones
instance : TFun Try.prog 61 := ⟨fun _ _ => by kernel_rfl⟩      -- routing/routingref08.runs
instance : TFun Try.prog 62 := ⟨fun _ _ => by kernel_rfl⟩      -- routing/routingref05.Range
instance : TFun Try.prog 63 := ⟨fun _ _ => by kernel_rfl⟩      -- routing/routingref08.depths
instance : TFun Try.prog 64 := ⟨fun _ _ => by kernel_rfl⟩      -- routing/routingref08.formed
instance : TFun Try.prog 65 := ⟨fun _ _ => by kernel_rfl⟩      -- routing/aggregate.least
instance : TFun Try.prog 66 := ⟨fun _ _ => by kernel_rfl⟩      -- routing/prefix.Halves
instance : TFun Try.prog 67 := ⟨fun _ _ => by kernel_rfl⟩      -- slices.BinarySearchFunc[[]routing/api.Entry,routing/api.Entry,routing/api.Prefix]
instance : TFun Try.prog 68 := ⟨fun _ _ => by kernel_rfl⟩      -- routing/aggregate.grow$1
instance : TFun Try.prog 69 := ⟨fun _ _ => by kernel_rfl⟩      -- routing/aggregate.joined
instance : TFun Try.prog 70 := ⟨fun _ _ => by kernel_rfl⟩      -- routing/aggregate.size
instance : TFun Try.prog 71 := ⟨fun _ _ => by kernel_rfl⟩      -- routing/prefix.Covers
instance : TFun Try.prog 72 := ⟨fun _ _ => by kernel_rfl⟩      -- (routing/stride.block).below
instance : TFun Try.prog 73 := ⟨fun _ _ => by kernel_rfl⟩      -- routing/stride.find
instance : TFun Try.prog 74 := ⟨fun _ _ => by kernel_rfl⟩      -- (routing/stride.block).size
instance : TFun Try.prog 75 := ⟨fun _ _ => by kernel_rfl⟩      -- routing/prefix.Last
instance : TFun Try.prog 76 := ⟨fun _ _ => by kernel_rfl⟩      -- slices.Sort[[]uint64,uint64]
instance : TFun Try.prog 77 := ⟨fun _ _ => by kernel_rfl⟩      -- slices.Compact[[]uint64,uint64]
instance : TFun Try.prog 78 := ⟨fun _ _ => by kernel_rfl⟩      -- routing/stride.extend
instance : TFun Try.prog 79 := ⟨fun _ _ => by kernel_rfl⟩      -- routing/bits.Keep
instance : TFun Try.prog 80 := ⟨fun _ _ => by kernel_rfl⟩      -- routing/trie.bit
instance : TFun Try.prog 81 := ⟨fun _ _ => by kernel_rfl⟩      -- (*routing/trie.Trie).down
instance : TFun Try.prog 82 := ⟨fun _ _ => by kernel_rfl⟩      -- (*routing/trie.list).add
instance : TFun Try.prog 83 := ⟨fun _ _ => by kernel_rfl⟩      -- routing/bits.clamp
instance : TFun Try.prog 84 := ⟨fun _ _ => by kernel_rfl⟩      -- routing/prefix.of
instance : TFun Try.prog 85 := ⟨fun _ _ => by kernel_rfl⟩      -- routing/routingref07.bound
instance : TFun Try.prog 86 := ⟨fun _ _ => by kernel_rfl⟩      -- routing/routingref02.Last
instance : TFun Try.prog 87 := ⟨fun _ _ => by kernel_rfl⟩      -- routing/routingref01.Keep
instance : TFun Try.prog 88 := ⟨fun _ _ => by kernel_rfl⟩      -- routing/routingref02.Contains
instance : TFun Try.prog 89 := ⟨fun _ _ => by kernel_rfl⟩      -- routing/stride.regular
instance : TFun Try.prog 90 := ⟨fun _ _ => by kernel_rfl⟩      -- routing/stride.expand
instance : TFun Try.prog 91 := ⟨fun _ _ => by kernel_rfl⟩      -- routing/stride.same
instance : TFun Try.prog 92 := ⟨fun _ _ => by kernel_rfl⟩      -- routing/routingref05.prefixes
instance : TFun Try.prog 93 := ⟨fun _ _ => by kernel_rfl⟩      -- (routing/stride.block).below$1
instance : TFun Try.prog 94 := ⟨fun _ _ => by kernel_rfl⟩      -- slices.BinarySearchFunc[[]routing/stride.run,routing/stride.run,uint64]
instance : TFun Try.prog 95 := ⟨fun _ _ => by kernel_rfl⟩      -- routing/stride.find$1
instance : TFun Try.prog 96 := ⟨fun _ _ => by kernel_rfl⟩      -- routing/bits.Mask
instance : TFun Try.prog 97 := ⟨fun _ _ => by kernel_rfl⟩      -- slices.pdqsortOrdered[uint64]
instance : TFun Try.prog 98 := ⟨fun _ _ => by kernel_rfl⟩      -- math/bits.Len
instance : TFun Try.prog 99 := ⟨fun _ _ => by kernel_rfl⟩      -- routing/bits.At
instance : TFun Try.prog 100 := ⟨fun _ _ => by kernel_rfl⟩      -- routing/prefix.Make
instance : TFun Try.prog 101 := ⟨fun _ _ => by kernel_rfl⟩      -- routing/routingref01.Mask
instance : TFun Try.prog 102 := ⟨fun _ _ => by kernel_rfl⟩      -- routing/routingref01.Low
instance : TFun Try.prog 103 := ⟨fun _ _ => by kernel_rfl⟩      -- routing/routingref01.At
instance : TFun Try.prog 104 := ⟨fun _ _ => by kernel_rfl⟩      -- routing/routingref02.Make
instance : TFun Try.prog 105 := ⟨fun _ _ => by kernel_rfl⟩      -- routing/bits.Ones
instance : TFun Try.prog 106 := ⟨fun _ _ => by kernel_rfl⟩      -- slices.ContainsFunc[[]int,int]
instance : TFun Try.prog 107 := ⟨fun _ _ => by kernel_rfl⟩      -- routing/stride.regular$1
instance : TFun Try.prog 108 := ⟨fun _ _ => by kernel_rfl⟩      -- slices.Equal[[]routing/api.CompressedNode,routing/api.CompressedNode]
instance : TFun Try.prog 109 := ⟨fun _ _ => by kernel_rfl⟩      -- slices.Equal[[]int,int]
instance : TFun Try.prog 110 := ⟨fun _ _ => by kernel_rfl⟩      -- slices.insertionSortOrdered[uint64]
instance : TFun Try.prog 111 := ⟨fun _ _ => by kernel_rfl⟩      -- slices.heapSortOrdered[uint64]
instance : TFun Try.prog 112 := ⟨fun _ _ => by kernel_rfl⟩      -- slices.breakPatternsOrdered[uint64]
instance : TFun Try.prog 113 := ⟨fun _ _ => by kernel_rfl⟩      -- slices.choosePivotOrdered[uint64]
instance : TFun Try.prog 114 := ⟨fun _ _ => by kernel_rfl⟩      -- slices.reverseRangeOrdered[uint64]
instance : TFun Try.prog 115 := ⟨fun _ _ => by kernel_rfl⟩      -- slices.partialInsertionSortOrdered[uint64]
instance : TFun Try.prog 116 := ⟨fun _ _ => by kernel_rfl⟩      -- cmp.Less[uint64]
instance : TFun Try.prog 117 := ⟨fun _ _ => by kernel_rfl⟩      -- slices.partitionEqualOrdered[uint64]
instance : TFun Try.prog 118 := ⟨fun _ _ => by kernel_rfl⟩      -- slices.partitionOrdered[uint64]
instance : TFun Try.prog 119 := ⟨fun _ _ => by kernel_rfl⟩      -- math/bits.Len32
instance : TFun Try.prog 120 := ⟨fun _ _ => by kernel_rfl⟩      -- math/bits.Len64
instance : TFun Try.prog 121 := ⟨fun _ _ => by kernel_rfl⟩      -- slices.IndexFunc[[]int,int]
instance : TFun Try.prog 122 := ⟨fun _ _ => by kernel_rfl⟩      -- slices.siftDownOrdered[uint64]
instance : TFun Try.prog 123 := ⟨fun _ _ => by kernel_rfl⟩      -- slices.nextPowerOfTwo
instance : TFun Try.prog 124 := ⟨fun _ _ => by kernel_rfl⟩      -- (*slices.xorshift).Next
instance : TFun Try.prog 125 := ⟨fun _ _ => by kernel_rfl⟩      -- slices.medianAdjacentOrdered[uint64]
instance : TFun Try.prog 126 := ⟨fun _ _ => by kernel_rfl⟩      -- slices.medianOrdered[uint64]
instance : TFun Try.prog 127 := ⟨fun _ _ => by kernel_rfl⟩      -- cmp.isNaN[uint64]
instance : TFun Try.prog 128 := ⟨fun _ _ => by kernel_rfl⟩      -- slices.order2Ordered[uint64]
end Go.Proofs.Ytjpnaofoeeegeaa


/-
  What some functions of the packages bits and routingref01 return, each for every word and number: said in the plain terms of the text BitsPlain.
  Conditions: words are natural numbers below 2^32 (2^64 for Rank), as Go's types have them.
-/
namespace Go.Proofs.Ytjpnaofoeeegeaa
open Go.RowKit

theorem ret_int {k : IntKind} {a b : Int} (h : a = b) : Ending.returned (.int k a) = .returned (.int k b) := by rw [h]

theorem clamp_any (a b : Int) (w : World) :
    Calls Try.prog 83 #[.int .i64 a, .int .i64 b] w fun e w' => e = .returned (.int .i64 (min (max a 0) b)) ∧ w = w' := by
  go_enter Try.func83, Try.ntmps83
  go_wp2
  all_goals
    go_ret
    exact ⟨ret_int (by omega), rfl⟩


theorem cast_div (x n : Nat) : (x : Int) / 2 ^ n = ((x / 2 ^ n : Nat) : Int) := by
  rw [Int.natCast_ediv]; rfl

theorem bit_val (x n : Nat) (hx : x < 4294967296) : bits .and .u32 ((x : Int) / 2 ^ n) 1 = ((x / 2 ^ n % 2 : Nat) : Int) := by
  have h : x / 2 ^ n < 4294967296 := Nat.lt_of_le_of_lt (Nat.div_le_self _ _) hx
  rw [cast_div, show (1 : Int) = ((1 : Nat) : Int) from rfl, u32_and_nat _ _ h (by omega), nat_mask1]

theorem bit_wrap (x n : Nat) : wrap64 (((x / 2 ^ n % 2 : Nat) : Int)) = ((x / 2 ^ n % 2 : Nat) : Int) := by
  have := Nat.mod_two_eq_zero_or_one (x / 2 ^ n)
  exact IntWalk.wrap64_in _ (by omega)

theorem at_eq (x : Nat) (i : Int) (hx : x < 4294967296) (h : 0 ≤ i ∧ i < 32) :
    wrap64 (bits .and .u32 ((x : Int) / 2 ^ (31 - i).toNat) 1) = ((bitAt x i : Nat) : Int) := by
  rw [bit_val _ _ hx, bit_wrap]; unfold bitAt; rw [if_pos h]
theorem at_out (x : Nat) (i : Int) (h : i < 0 ∨ 32 ≤ i) : (0 : Int) = ((bitAt x i : Nat) : Int) := by
  unfold bitAt; rw [if_neg (by omega)]; rfl

theorem bitsAt (x : Nat) (i : Int) (w : World) (hx : x < 4294967296) :
    Calls Try.prog 99 #[.int .u32 x, .int .i64 i] w fun e w' => e = .returned (.int .i64 (bitAt x i)) ∧ w = w' := by
  go_enter Try.func99, Try.ntmps99
  go_wp2
  all_goals
    go_ret
    exact ⟨ret_int (by first | exact at_eq x i hx (by omega) | exact at_out x i (by omega)), rfl⟩

theorem clamp32 (a : Int) (w : World) :
    Calls Try.prog 83 #[.int .i64 a, .int .i64 32] w fun e w' => e = .returned (.int .i64 (lowN a 32)) ∧ w = w' :=
  (clamp_any a 32 w).mono fun _ _ ⟨he, hw⟩ => ⟨he.trans (ret_int (lowN_cast a 32).symm), hw⟩
theorem shl_mask (c : Nat) (hc : c ≤ 32) : 4294967295 * 2 ^ (32 - c) % 4294967296 = ((maskN c : Nat) : Int) := by
  have h1 : (4294967295 : Int) * 2 ^ (32 - c) % 4294967296 = ((4294967295 * 2 ^ (32 - c) % 4294967296 : Nat) : Int) := by simp
  rw [h1]
  congr 1
  unfold maskN
  have hp := Nat.two_pow_pos (32 - c)
  have hle : 2 ^ (32 - c) ≤ 2 ^ 32 := Nat.pow_le_pow_right (by omega) (by omega)
  generalize 2 ^ (32 - c) = p at *
  have e2 : 4294967295 * p = (4294967296 - p) + (p - 1) * 4294967296 := by omega
  rw [e2, Nat.add_mul_mod_self_right, Nat.mod_eq_of_lt (by omega)]

theorem bitsMask (n : Int) (w : World) :
    Calls Try.prog 96 #[.int .i64 n] w fun e w' => e = .returned (.int .u32 (maskN (lowN n 32))) ∧ w = w' := by
  have hle := lowN_le n 32
  go_enter Try.func96, Try.ntmps96
  go_wp2_with (go_at_call 83; refine (clamp32 _ _).mono ?_; rintro e w' ⟨rfl, rfl⟩)
  go_ret
  exact ⟨ret_int (shl_mask _ hle), rfl⟩

theorem and_mask (x c : Nat) (hx : x < 4294967296) (hc : c ≤ 32) : bits .and .u32 (x : Int) (maskN c : Nat) = ((top x c : Nat) : Int) := by
  rw [u32_and_nat _ _ hx (maskN_lt c), and_maskN x c hx hc]

theorem bitsKeep (x : Nat) (n : Int) (w : World) (hx : x < 4294967296) :
    Calls Try.prog 79 #[.int .u32 x, .int .i64 n] w fun e w' => e = .returned (.int .u32 (top x (lowN n 32))) ∧ w = w' := by
  have hle := lowN_le n 32
  go_enter Try.func79, Try.ntmps79
  go_wp2_with (go_at_call 96; refine (bitsMask _ _).mono ?_; rintro e w' ⟨rfl, rfl⟩)
  go_ret
  exact ⟨ret_int (and_mask _ _ hx hle), rfl⟩

theorem keepP_v (x : Nat) (n : Int) (w : World) (hx : x < 4294967296) : Calls Try.prog 79 #[.int .u32 x, .int .i64 n] w (Ret (.int .u32 (top x (lowN n 32))) w) :=
  (bitsKeep x n w hx).mono fun _ _ ⟨h1, h2⟩ => ⟨h1, h2 ▸ Ext.refl _⟩
theorem maskP_v (n : Int) (w : World) : Calls Try.prog 96 #[.int .i64 n] w (Ret (.int .u32 (maskN (lowN n 32))) w) :=
  (bitsMask n w).mono fun _ _ ⟨h1, h2⟩ => ⟨h1, h2 ▸ Ext.refl _⟩
theorem atP_v (x : Nat) (i : Int) (w : World) (hx : x < 4294967296) : Calls Try.prog 99 #[.int .u32 x, .int .i64 i] w (Ret (.int .i64 (bitAt x i)) w) :=
  (bitsAt x i w hx).mono fun _ _ ⟨h1, h2⟩ => ⟨h1, h2 ▸ Ext.refl _⟩
end Go.Proofs.Ytjpnaofoeeegeaa


/-
  Prefixes: what the functions of the package prefix return, in plain terms.
  Conditions: addresses are below 2^32, as Go's type has them.
-/
namespace Go.Proofs.Ytjpnaofoeeegeaa
open Go.RowKit

theorem Ret_mk {v v' : Value} {w w1 : World} (hv : v' = v) (he : Ext w w1) : ∀ w', Ext w1 w' → Ret v w (.returned v') w' := fun _ h => ⟨by rw [hv], he.trans h⟩
/-- A prefix, as Go's struct has it. -/
structure Pf where
  a : Nat
  n : Int
deriving DecidableEq
def Pf.cells (p : Pf) : List Value := [.int .u32 p.a, .int .i64 p.n]
abbrev Pf.val (p : Pf) : Value := .agg #[.int .u32 p.a, .int .i64 p.n]
def Pf.valid (p : Pf) : Bool := decide (0 ≤ p.n) && (decide (p.n ≤ 32) && decide (top p.a p.n.toNat = p.a))
theorem lowN_in {n : Int} (h0 : 0 ≤ n) (h1 : n ≤ 32) : lowN n 32 = n.toNat := by unfold lowN; omega
theorem Pf.valid_iff {p : Pf} : p.valid = true ↔ 0 ≤ p.n ∧ p.n ≤ 32 ∧ top p.a p.n.toNat = p.a := by
  unfold Pf.valid
  simp only [Bool.and_eq_true, decide_eq_true_eq]

theorem castEq (a b : Nat) : decide ((a : Int) = (b : Int)) = decide (a = b) := by
  by_cases h : a = b
  · rw [decide_eq_true h, decide_eq_true (by rw [h])]
  · rw [decide_eq_false h, decide_eq_false (by omega)]
theorem valid_v (p : Pf) (w : World) (ha : p.a < 4294967296) : Calls Try.prog 38 #[p.val] w (Ret (.bool p.valid) w) := by
  refine V_enter (vs := [_]) Try.func38 rfl Try.ntmps38 (Nat.le_of_ble_eq_true rfl) ?_
  repeat (first | refine Vx ?_ | (apply Ops_q; (case hon => exact Va); (case hd => rfl); (case hq => exact YlA)) | refine Vr ?_ | refine Vt ?_ | refine Vf ?_ | refine Vm ?_ | refine Ve ?_ | refine Vo ?_ | refine Vz ?_ | refine Vn ?_)
  (refine Ops_box (by exact Va) rfl rfl rfl ?_; intro w1 b1 n_b1; have k_b1 := n_b1.blk)
  repeat (first | refine Vx ?_ | (apply Ops_q; (case hon => exact Va); (case hd => rfl); (case hq => exact YlA)) | refine Vr ?_ | refine Vt ?_ | refine Vf ?_ | refine Vm ?_ | refine Ve ?_ | refine Vo ?_ | refine Vz ?_ | refine Vn ?_)
  refine Ops_split rfl rfl (fun h1 => ?_) (fun h1 => ?_)
  · repeat (first | refine Vx ?_ | (apply Ops_q; (case hon => exact Va); (case hd => rfl); (case hq => exact YlA)) | refine Vr ?_ | refine Vt ?_ | refine Vf ?_ | refine Vm ?_ | refine Ve ?_ | refine Vo ?_ | refine Vz ?_ | refine Vn ?_)
    refine Ops_split rfl rfl (fun h2 => ?_) (fun h2 => ?_)
    · repeat (first | refine Vx ?_ | (apply Ops_q; (case hon => exact Va); (case hd => rfl); (case hq => exact YlA)) | refine Vr ?_ | refine Vt ?_ | refine Vf ?_ | refine Vm ?_ | refine Ve ?_ | refine Vo ?_ | refine Vz ?_ | refine Vn ?_)
      (apply Ops_q; (case hon => (exact Va)); (case hd => rfl); (case hq => exact Yl_call rfl (fun w_ e_ => keepP_v p.a p.n w_ ha)))
      repeat (first | refine Vx ?_ | (apply Ops_q; (case hon => exact Va); (case hd => rfl); (case hq => exact YlA)) | refine Vr ?_ | refine Vt ?_ | refine Vf ?_ | refine Vm ?_ | refine Ve ?_ | refine Vo ?_ | refine Vz ?_ | refine Vn ?_)
      refine ret1 (by first | exact .inl rfl | exact .inr rfl) rfl rfl ?_
      refine Ret_mk ?_ n_b1.ext
      rw [Pf.valid, h1, h2, Bool.true_and, Bool.true_and, castEq, lowN_in (of_decide_eq_true h1) (of_decide_eq_true h2)]
    · repeat (first | refine Vx ?_ | (apply Ops_q; (case hon => exact Va); (case hd => rfl); (case hq => exact YlA)) | refine Vr ?_ | refine Vt ?_ | refine Vf ?_ | refine Vm ?_ | refine Ve ?_ | refine Vo ?_ | refine Vz ?_ | refine Vn ?_)
      refine ret1 (by first | exact .inl rfl | exact .inr rfl) rfl rfl ?_
      exact Ret_mk (by rw [Pf.valid, h1, h2]; rfl) n_b1.ext
  · repeat (first | refine Vx ?_ | (apply Ops_q; (case hon => exact Va); (case hd => rfl); (case hq => exact YlA)) | refine Vr ?_ | refine Vt ?_ | refine Vf ?_ | refine Vm ?_ | refine Ve ?_ | refine Vo ?_ | refine Vz ?_ | refine Vn ?_)
    refine ret1 (by first | exact .inl rfl | exact .inr rfl) rfl rfl ?_
    exact Ret_mk (by rw [Pf.valid, h1]; rfl) n_b1.ext
/-- The prefix of the first n bits. -/
def Pf.of (a : Nat) (n : Int) : Pf := ⟨top a (lowN n 32), n⟩
theorem of_v (a : Nat) (n : Int) (w : World) (ha : a < 4294967296) : Calls Try.prog 84 #[.int .u32 a, .int .i64 n] w (Ret (Pf.of a n).val w) := by
  refine V_enter (vs := [_, _]) Try.func84 rfl Try.ntmps84 (Nat.le_of_ble_eq_true rfl) ?_
  repeat (first | refine Vx ?_ | (apply Ops_q; (case hon => exact Va); (case hd => rfl); (case hq => exact YlA)) | refine Vr ?_ | refine Vt ?_ | refine Vf ?_ | refine Vm ?_ | refine Ve ?_ | refine Vo ?_ | refine Vz ?_ | refine Vn ?_)
  (refine Ops_alloc (by exact Va) rfl ?_; intro w1 b1 n_b1; have k_b1 := n_b1.blk)
  repeat (first | refine Vx ?_ | (apply Ops_q; (case hon => exact Va); (case hd => rfl); (case hq => exact YlA)) | refine Vr ?_ | refine Vt ?_ | refine Vf ?_ | refine Vm ?_ | refine Ve ?_ | refine Vo ?_ | refine Vz ?_ | refine Vn ?_)
  (apply Ops_q; (case hon => (exact Va)); (case hd => rfl); (case hq => exact Yl_call rfl (fun w_ e_ => keepP_v a n w_ ha)))
  repeat (first | refine Vx ?_ | (apply Ops_q; (case hon => exact Va); (case hd => rfl); (case hq => exact YlA)) | refine Vr ?_ | refine Vt ?_ | refine Vf ?_ | refine Vm ?_ | refine Ve ?_ | refine Vo ?_ | refine Vz ?_ | refine Vn ?_)
  (refine Ops_store (by exact Va) rfl rfl (by assumption) (by first | rfl | exact OneAll.h) ?_; intro w2 u_w2; have k_b1 := u_w2.blk)
  have e2 := u_w2.below n_b1.ext n_b1.ge
  repeat (first | refine Vx ?_ | (apply Ops_q; (case hon => exact Va); (case hd => rfl); (case hq => exact YlA)) | refine Vr ?_ | refine Vt ?_ | refine Vf ?_ | refine Vm ?_ | refine Ve ?_ | refine Vo ?_ | refine Vz ?_ | refine Vn ?_)
  refine retR1 (by first | exact .inl rfl | exact .inr rfl) rfl (res_agg rfl k_b1.cells) ?_
  exact Ret_mk rfl e2
theorem make_v (a : Nat) (k : Nat) (w : World) (ha : a < 4294967296) (hk : k ≤ 32) : Calls Try.prog 100 #[.int .u32 a, .int .i64 k] w (Ret (.tuple #[(⟨top a k, k⟩ : Pf).val, .int .i64 0]) w) := by
  have h1 : decide ((k : Int) < 0) = false := decide_eq_false (by omega)
  have h2 : decide ((32 : Int) < k) = false := decide_eq_false (by omega)
  refine V_enter (vs := [_, _]) Try.func100 rfl Try.ntmps100 (Nat.le_of_ble_eq_true rfl) ?_
  repeat (first | refine Vx ?_ | (apply Ops_q; (case hon => exact Va); (case hd => rfl); (case hq => exact YlA)) | refine Vr ?_ | refine Vt ?_ | refine Vf ?_ | refine Vm ?_ | refine Ve ?_ | refine Vo ?_ | refine Vz ?_ | refine Vn ?_)
  (refine Ops_alloc (by exact Va) rfl ?_; intro w1 b1 n_b1; have k_b1 := n_b1.blk)
  repeat (first | refine Vx ?_ | (apply Ops_q; (case hon => exact Va); (case hd => rfl); (case hq => exact YlA)) | refine Vr ?_ | refine Vt ?_ | refine Vf ?_ | refine Vm ?_ | refine Ve ?_ | refine Vo ?_ | refine Vz ?_ | refine Vn ?_)
  refine V_no rfl h2 ?_
  repeat (first | refine Vx ?_ | (apply Ops_q; (case hon => exact Va); (case hd => rfl); (case hq => exact YlA)) | refine Vr ?_ | refine Vt ?_ | refine Vf ?_ | refine Vm ?_ | refine Ve ?_ | refine Vo ?_ | refine Vz ?_ | refine Vn ?_)
  (apply Ops_q; (case hon => (exact Va)); (case hd => rfl); (case hq => exact Yl_call rfl (fun w_ e_ => of_v a k w_ ha)))
  repeat (first | refine Vx ?_ | (apply Ops_q; (case hon => exact Va); (case hd => rfl); (case hq => exact YlA)) | refine Vr ?_ | refine Vt ?_ | refine Vf ?_ | refine Vm ?_ | refine Ve ?_ | refine Vo ?_ | refine Vz ?_ | refine Vn ?_)
  (refine Ops_store (by exact Va) rfl rfl (by assumption) (by first | rfl | exact OneAll.h) ?_; intro w2 u_w2; have k_b1 := u_w2.blk)
  have e2 := u_w2.below n_b1.ext n_b1.ge
  repeat (first | refine Vx ?_ | (apply Ops_q; (case hon => exact Va); (case hd => rfl); (case hq => exact YlA)) | refine Vr ?_ | refine Vt ?_ | refine Vf ?_ | refine Vm ?_ | refine Ve ?_ | refine Vo ?_ | refine Vz ?_ | refine Vn ?_)
  refine retR2 (by first | exact .inl rfl | exact .inr rfl) rfl (res_agg rfl k_b1.cells) rfl ?_
  refine Ret_mk ?_ e2
  rw [Pf.of, lowN_nat k 32 hk]
/-- All bits turned. -/
theorem xor_all (n : Nat) (h : n ≤ 4294967295) : bits .xor .u32 4294967295 (n : Int) = ((4294967295 - n : Nat) : Int) := by
  have e : (4294967295 : Int) = ((4294967295 : Nat) : Int) := rfl
  rw [e, u32_xor_nat _ _ (by omega) (by omega)]
  congr 1
  have e2 : 4294967295 ^^^ n = 4294967295 - n := by
    have h1 : n < 2 ^ 32 := by omega
    refine Nat.eq_of_testBit_eq fun i => ?_
    have h2 := Nat.testBit_two_pow_sub_succ h1 i
    have h3 : Nat.testBit 4294967295 i = decide (i < 32) := Nat.testBit_two_pow_sub_one 32 i
    rw [show 4294967295 - n = 2 ^ 32 - (n + 1) by omega, h2, Nat.testBit_xor, h3]
    by_cases hi : i < 32
    · simp [hi]
    · have h4 : n.testBit i = false := Nat.testBit_lt_two_pow (Nat.lt_of_lt_of_le h1 (Nat.pow_le_pow_right (by omega) (by omega)))
      simp [hi, h4]
  exact e2
theorem Yl_com {P : Program} {N : Fr} {m : Env} {w : World} {dst : Option Tmp} {t ty : TypeId} {pos : String} {after : Array Edge} {g : Option (Nat × Bool)} {x : Operand} {n : Nat} (hx : ev m x = some (.int .u32 n)) (hn : n ≤ 4294967295) :
    Yl P N m w ⟨dst, .unOp .xor t x, ty, pos, after, g⟩ (.int .u32 ((4294967295 - n : Nat) : Int)) :=
  Yl_of_run fun ac w' ha _ => by
    rw [← xor_all n hn]
    have e : (2 : Int) ^ IntKind.u32.bits - 1 = 4294967295 := rfl
    simp [execOp, ha.ev hx, Op.unary, IntKind.signed, IntKind.max, intBits_xor, e]
/-- The greatest address. -/
def Pf.last (p : Pf) : Nat := if p.valid then p.a + (2 ^ (32 - p.n.toNat) - 1) else 0
theorem last_eq {a k : Nat} (ht : top a k = a) (hk : k ≤ 32) (ha : a < 4294967296) : bits .or .u32 (a : Int) ((4294967295 - maskN k : Nat) : Int) = ((a + (2 ^ (32 - k) - 1) : Nat) : Int) := by
  have hp : 0 < 2 ^ (32 - k) := Nat.two_pow_pos _
  have hle : 2 ^ (32 - k) ≤ 4294967296 := Nat.pow_le_pow_right (n := 2) (j := 32) (by omega) (by omega)
  have e : 4294967295 - maskN k = 2 ^ (32 - k) - 1 := by unfold maskN; omega
  rw [e, u32_or_nat _ _ ha (by omega)]
  congr 1
  have h2 : a = a / 2 ^ (32 - k) * 2 ^ (32 - k) := by unfold top at ht; exact ht.symm
  rw [h2]
  generalize a / 2 ^ (32 - k) = q
  exact nat_disjoint (32 - k) q (2 ^ (32 - k) - 1) (by omega)
theorem last_lt {a k : Nat} (ht : top a k = a) (hk : k ≤ 32) (ha : a < 4294967296) : a + (2 ^ (32 - k) - 1) < 4294967296 := by
  have h2 : a = a / 2 ^ (32 - k) * 2 ^ (32 - k) := by unfold top at ht; exact ht.symm
  have hp : 2 ^ k * 2 ^ (32 - k) = 4294967296 := by rw [← Nat.pow_add, show k + (32 - k) = 32 by omega]
  have hpos : 0 < 2 ^ (32 - k) := Nat.two_pow_pos _
  have hq : a / 2 ^ (32 - k) < 2 ^ k := Nat.div_lt_of_lt_mul (by rw [Nat.mul_comm, hp]; exact ha)
  have h3 : (a / 2 ^ (32 - k) + 1) * 2 ^ (32 - k) ≤ 2 ^ k * 2 ^ (32 - k) := Nat.mul_le_mul_right _ hq
  rw [Nat.succ_mul, hp, ← h2] at h3
  omega
theorem last_v (p : Pf) (w : World) (ha : p.a < 4294967296) : Calls Try.prog 75 #[p.val] w (Ret (.int .u32 p.last) w) := by
  refine V_enter (vs := [_]) Try.func75 rfl Try.ntmps75 (Nat.le_of_ble_eq_true rfl) ?_
  repeat (first | refine Vx ?_ | (apply Ops_q; (case hon => exact Va); (case hd => rfl); (case hq => exact YlA)) | refine Vr ?_ | refine Vt ?_ | refine Vf ?_ | refine Vm ?_ | refine Ve ?_ | refine Vo ?_ | refine Vz ?_ | refine Vn ?_)
  (refine Ops_box (by exact Va) rfl rfl rfl ?_; intro w1 b1 n_b1; have k_b1 := n_b1.blk)
  repeat (first | refine Vx ?_ | (apply Ops_q; (case hon => exact Va); (case hd => rfl); (case hq => exact YlA)) | refine Vr ?_ | refine Vt ?_ | refine Vf ?_ | refine Vm ?_ | refine Ve ?_ | refine Vo ?_ | refine Vz ?_ | refine Vn ?_)
  (apply Ops_q; (case hon => (exact Va)); (case hd => rfl); (case hq => exact Yl_call rfl (fun w_ e_ => valid_v p w_ ha)))
  repeat (first | refine Vx ?_ | (apply Ops_q; (case hon => exact Va); (case hd => rfl); (case hq => exact YlA)) | refine Vr ?_ | refine Vt ?_ | refine Vf ?_ | refine Vm ?_ | refine Ve ?_ | refine Vo ?_ | refine Vz ?_ | refine Vn ?_)
  refine V_cond rfl (fun h => ?_) (fun h => ?_)
  · have hv : p.valid = false := by simpa using h
    repeat (first | refine Vx ?_ | (apply Ops_q; (case hon => exact Va); (case hd => rfl); (case hq => exact YlA)) | refine Vr ?_ | refine Vt ?_ | refine Vf ?_ | refine Vm ?_ | refine Ve ?_ | refine Vo ?_ | refine Vz ?_ | refine Vn ?_)
    refine ret1 (by first | exact .inl rfl | exact .inr rfl) rfl rfl ?_
    exact Ret_mk (by rw [Pf.last, hv]; rfl) n_b1.ext
  · have hv : p.valid = true := by simpa using h
    obtain ⟨v1, v2, v3⟩ := Pf.valid_iff.1 hv
    have hl := last_eq v3 (by omega) ha
    have hmk := maskN_lt p.n.toNat
    repeat (first | refine Vx ?_ | (apply Ops_q; (case hon => exact Va); (case hd => rfl); (case hq => exact YlA)) | refine Vr ?_ | refine Vt ?_ | refine Vf ?_ | refine Vm ?_ | refine Ve ?_ | refine Vo ?_ | refine Vz ?_ | refine Vn ?_)
    (apply Ops_q; (case hon => (exact Va)); (case hd => rfl); (case hq => exact Yl_call rfl (fun w_ e_ => maskP_v p.n w_)))
    rw [lowN_in v1 v2]
    (apply Ops_q; (case hon => exact on_none); (case hd => rfl); (case hq => exact Yl_com rfl (by omega)))
    repeat (first | refine Vx ?_ | (apply Ops_q; (case hon => exact Va); (case hd => rfl); (case hq => exact YlA)) | refine Vr ?_ | refine Vt ?_ | refine Vf ?_ | refine Vm ?_ | refine Ve ?_ | refine Vo ?_ | refine Vz ?_ | refine Vn ?_)
    refine ret1 (by first | exact .inl rfl | exact .inr rfl) rfl rfl ?_
    refine Ret_mk ?_ n_b1.ext
    rw [Pf.last, if_pos hv, ← hl]
/-- Both prefixes that are one bit longer. -/
theorem halves_v (p : Pf) (w : World) (ha : p.a < 4294967296) (hv : p.valid = true) (hn : p.n < 32) : Calls Try.prog 66 #[p.val] w (Ret (.tuple #[(Pf.of p.a (p.n + 1)).val, (Pf.of p.last (p.n + 1)).val, .bool true]) w) := by
  obtain ⟨v1, v2, v3⟩ := Pf.valid_iff.1 hv
  have hne : decide (p.n = 32) = false := decide_eq_false (by omega)
  have hl : p.last < 4294967296 := by
    rw [Pf.last, if_pos hv]
    exact last_lt v3 (by omega) ha
  refine V_enter (vs := [_]) Try.func66 rfl Try.ntmps66 (Nat.le_of_ble_eq_true rfl) ?_
  repeat (first | refine Vx ?_ | (apply Ops_q; (case hon => exact Va); (case hd => rfl); (case hq => exact YlA)) | refine Vr ?_ | refine Vt ?_ | refine Vf ?_ | refine Vm ?_ | refine Ve ?_ | refine Vo ?_ | refine Vz ?_ | refine Vn ?_)
  (refine Ops_box (by exact Va) rfl rfl rfl ?_; intro w1 b1 n_b1; have k_b1 := n_b1.blk)
  repeat (first | refine Vx ?_ | (apply Ops_q; (case hon => exact Va); (case hd => rfl); (case hq => exact YlA)) | refine Vr ?_ | refine Vt ?_ | refine Vf ?_ | refine Vm ?_ | refine Ve ?_ | refine Vo ?_ | refine Vz ?_ | refine Vn ?_)
  (refine Ops_alloc (by exact Va) rfl ?_; intro w2 b2 n_b2; have k_b2 := n_b2.blk)
  repeat (first | refine Vx ?_ | (apply Ops_q; (case hon => exact Va); (case hd => rfl); (case hq => exact YlA)) | refine Vr ?_ | refine Vt ?_ | refine Vf ?_ | refine Vm ?_ | refine Ve ?_ | refine Vo ?_ | refine Vz ?_ | refine Vn ?_)
  (refine Ops_alloc (by exact Va) rfl ?_; intro w3 b3 n_b3; have k_b3 := n_b3.blk)
  replace k_b1 := k_b1.ext n_b2.ext
  have ne_b2_b3 : b2 ≠ b3 := Nat.ne_of_lt (Nat.lt_of_lt_of_le k_b2.lt n_b3.ge)
  replace k_b1 := k_b1.ext n_b3.ext; replace k_b2 := k_b2.ext n_b3.ext
  have g2 : w.heap.size ≤ b2 := Nat.le_trans n_b1.ext.size n_b2.ge
  have g3 : w.heap.size ≤ b3 := Nat.le_trans (n_b1.ext.trans n_b2.ext).size n_b3.ge
  have e3 := (n_b1.ext.trans n_b2.ext).trans n_b3.ext
  repeat (first | refine Vx ?_ | (apply Ops_q; (case hon => exact Va); (case hd => rfl); (case hq => exact YlA)) | refine Vr ?_ | refine Vt ?_ | refine Vf ?_ | refine Vm ?_ | refine Ve ?_ | refine Vo ?_ | refine Vz ?_ | refine Vn ?_)
  (apply Ops_q; (case hon => (exact Va)); (case hd => rfl); (case hq => exact Yl_call rfl (fun w_ e_ => valid_v p w_ ha)))
  rw [hv]
  repeat (first | refine Vx ?_ | (apply Ops_q; (case hon => exact Va); (case hd => rfl); (case hq => exact YlA)) | refine Vr ?_ | refine Vt ?_ | refine Vf ?_ | refine Vm ?_ | refine Ve ?_ | refine Vo ?_ | refine Vz ?_ | refine Vn ?_)
  refine V_no rfl hne ?_
  repeat (first | refine Vx ?_ | (apply Ops_q; (case hon => exact Va); (case hd => rfl); (case hq => exact YlA)) | refine Vr ?_ | refine Vt ?_ | refine Vf ?_ | refine Vm ?_ | refine Ve ?_ | refine Vo ?_ | refine Vz ?_ | refine Vn ?_)
  refine V_region_mixed 12 (by kernel_rfl) (by kernel_rfl) rfl ?_
  repeat (first | refine Vx ?_ | (apply Ops_q; (case hon => exact Va); (case hd => rfl); (case hq => exact YlA)) | refine Vr ?_ | refine Vt ?_ | refine Vf ?_ | refine Vm ?_ | refine Ve ?_ | refine Vo ?_ | refine Vz ?_ | refine Vn ?_)
  (apply Ops_q; (case hon => (exact Va)); (case hd => rfl); (case hq => exact Yl_call rfl (fun w_ e_ => of_v p.a (p.n + 1) w_ ha)))
  repeat (first | refine Vx ?_ | (apply Ops_q; (case hon => exact Va); (case hd => rfl); (case hq => exact YlA)) | refine Vr ?_ | refine Vt ?_ | refine Vf ?_ | refine Vm ?_ | refine Ve ?_ | refine Vo ?_ | refine Vz ?_ | refine Vn ?_)
  (apply Ops_q; (case hon => (exact Va)); (case hd => rfl); (case hq => exact Yl_call rfl (fun w_ e_ => last_v p w_ ha)))
  repeat (first | refine Vx ?_ | (apply Ops_q; (case hon => exact Va); (case hd => rfl); (case hq => exact YlA)) | refine Vr ?_ | refine Vt ?_ | refine Vf ?_ | refine Vm ?_ | refine Ve ?_ | refine Vo ?_ | refine Vz ?_ | refine Vn ?_)
  (apply Ops_q; (case hon => (exact Va)); (case hd => rfl); (case hq => exact Yl_call rfl (fun w_ e_ => of_v p.last (p.n + 1) w_ hl)))
  repeat (first | refine Vx ?_ | (apply Ops_q; (case hon => exact Va); (case hd => rfl); (case hq => exact YlA)) | refine Vr ?_ | refine Vt ?_ | refine Vf ?_ | refine Vm ?_ | refine Ve ?_ | refine Vo ?_ | refine Vz ?_ | refine Vn ?_)
  (refine Ops_store (by exact Va) rfl rfl (by assumption) (by first | rfl | exact OneAll.h) ?_; intro w4 u_w4; have k_b2 := u_w4.blk)
  have k4_b3 := u_w4.keep k_b3 ne_b2_b3.symm
  have e4 := u_w4.below e3 g2
  repeat (first | refine Vx ?_ | (apply Ops_q; (case hon => exact Va); (case hd => rfl); (case hq => exact YlA)) | refine Vr ?_ | refine Vt ?_ | refine Vf ?_ | refine Vm ?_ | refine Ve ?_ | refine Vo ?_ | refine Vz ?_ | refine Vn ?_)
  (refine Ops_store (by exact Va) rfl rfl k4_b3 (by rfl) ?_; intro w5 u_w5; have k5_b3 := u_w5.blk)
  have k5_b2 := u_w5.keep k_b2 ne_b2_b3
  have e5 := u_w5.below e4 g3
  repeat (first | refine Vx ?_ | (apply Ops_q; (case hon => exact Va); (case hd => rfl); (case hq => exact YlA)) | refine Vr ?_ | refine Vt ?_ | refine Vf ?_ | refine Vm ?_ | refine Ve ?_ | refine Vo ?_ | refine Vz ?_ | refine Vn ?_)
  refine retR3 (by first | exact .inl rfl | exact .inr rfl) rfl (res_agg rfl k5_b2.cells) (res_agg rfl k5_b3.cells) rfl ?_
  exact Ret_mk rfl e5
end Go.Proofs.Ytjpnaofoeeegeaa


/-
  A trie in memory: its nodes are found by prefixes.
  No conditions beyond those that each statement names.
-/
namespace Go.Proofs.Ytjpnaofoeeegeaa
open Go.RowKit

/-! ### Prefixes in plain numbers -/
theorem pow_up {k : Nat} (h : k < 32) : 2 ^ (32 - k) = 2 * 2 ^ (31 - k) := by rw [show 32 - k = (31 - k) + 1 by omega, Nat.pow_succ, Nat.mul_comm]
/-- The address of a prefix that is one bit longer. -/
def kidA (x k bit : Nat) : Nat := x + bit * 2 ^ (31 - k)
theorem top_kid (a : Nat) {k : Nat} (h : k < 32) : top a (k + 1) = kidA (top a k) k (bitAt a k) := by
  unfold kidA top
  rw [bitAt_nat a k h, pow_up h, show 32 - (k + 1) = 31 - k by omega]
  have hd := div_step a k h
  rw [pow_up h] at hd
  generalize a / 2 ^ (31 - k) % 2 = r at *
  rw [hd, Nat.add_mul, Nat.mul_assoc, Nat.mul_comm 2, Nat.mul_assoc, Nat.mul_comm _ 2, ← Nat.mul_assoc]
theorem kid_top {x k bit : Nat} (h : k < 32) (hx : top x k = x) (hb : bit < 2) : top (kidA x k bit) (k + 1) = kidA x k bit ∧ top (kidA x k bit) k = x := by
  unfold kidA
  unfold top at *
  rw [pow_up h] at *
  rw [show 32 - (k + 1) = 31 - k by omega]
  have hp : 0 < 2 ^ (31 - k) := Nat.two_pow_pos _
  generalize 2 ^ (31 - k) = p at *
  obtain ⟨q, hq⟩ : ∃ q, x = q * (2 * p) := ⟨_, hx.symm⟩
  subst hq
  have e1 : q * (2 * p) + bit * p = (2 * q + bit) * p := by rw [Nat.add_mul, ← Nat.mul_assoc, Nat.mul_comm q 2]
  rw [e1]
  refine ⟨by rw [Nat.mul_div_cancel _ hp], ?_⟩
  rw [Nat.mul_comm 2 p, ← Nat.div_div_eq_div_mul, Nat.mul_div_cancel _ hp]
  rw [show (2 * q + bit) / 2 = q by omega]
theorem top_top (a : Nat) {j k : Nat} (h : j ≤ k) (hk : k ≤ 32) : top (top a k) j = top a j := by
  unfold top
  have e : 2 ^ (32 - j) = 2 ^ (32 - k) * 2 ^ (k - j) := by rw [← Nat.pow_add]; congr 1; omega
  have hp : 0 < 2 ^ (32 - k) := Nat.two_pow_pos _
  rw [e, ← Nat.div_div_eq_div_mul, Nat.mul_div_cancel _ hp, Nat.div_div_eq_div_mul]
theorem kid_lt {x k bit : Nat} (h : k < 32) (hx : top x k = x) (hb : bit < 2) (hl : x < 4294967296) : kidA x k bit < 4294967296 := by
  have := last_lt hx (by omega) hl
  rw [pow_up h] at this
  have hp : 0 < 2 ^ (31 - k) := Nat.two_pow_pos _
  unfold kidA
  rcases (by omega : bit = 0 ∨ bit = 1) with rfl | rfl <;> omega
theorem kid_inj {x x' k bit bit' : Nat} (h : k < 32) (hx : top x k = x) (hx' : top x' k = x') (hb : bit < 2) (hb' : bit' < 2) (e : kidA x k bit = kidA x' k bit') : x = x' ∧ bit = bit' := by
  have h1 := (kid_top h hx hb).2
  have h2 := (kid_top h hx' hb').2
  rw [e, h2] at h1
  subst h1
  refine ⟨rfl, ?_⟩
  have hp : 0 < 2 ^ (31 - k) := Nat.two_pow_pos _
  unfold kidA at e
  exact Nat.eq_of_mul_eq_mul_right hp (by omega)
theorem bit_lt (a k : Nat) : bitAt a (k : Int) < 2 := bitAt_lt a _

/-! ### Nodes -/
def ptrV (o : Option Nat) : Value := .pointer (o.map fun b => ⟨b, 0, none⟩)
/-- The node below, one bit on. -/
def kid (N : Nat → Nat → Option Nat) (x k bit : Nat) : Option Nat := if k < 32 then N (kidA x k bit) (k + 1) else none
def nodeC (N : Nat → Nat → Option Nat) (E : Nat → Nat → Option Int) (x k : Nat) (tl : List Value) : List Value := ptrV (kid N x k 0) :: ptrV (kid N x k 1) :: .bool (E x k).isSome :: .int .i64 ((E x k).getD 0) :: tl
def nodeT (k : Nat) : Nat := if k = 0 then 138 else 136
def nodeL (k : Nat) (n : Int) : List Value := if k = 0 then [.int .i64 n] else []
structure TrieM (w : World) (base b0 : Nat) (N : Nat → Nat → Option Nat) (E : Nat → Nat → Option Int) (n : Int) : Prop where
  root : N 0 0 = some b0
  node : ∀ x k b, N x k = some b → Blk w b (nodeT k) (nodeC N E x k (nodeL k n))
  can : ∀ x k b, N x k = some b → k ≤ 32 ∧ top x k = x ∧ x < 4294967296
  inj : ∀ x k x' k' b, N x k = some b → N x' k' = some b → x = x' ∧ k = k'
  par : ∀ x k b, N x (k + 1) = some b → N (top x k) k ≠ none
  ent : ∀ x k v, E x k = some v → N x k ≠ none
  ge : ∀ x k b, N x k = some b → base ≤ b
/-- The trie's blocks. -/
def Foot (N : Nat → Nat → Option Nat) (b : Nat) : Prop := ∃ x k, N x k = some b
section
variable {w w1 : World} {base b0 : Nat} {N : Nat → Nat → Option Nat} {E : Nat → Nat → Option Int} {n : Int}
theorem TrieM.ext (h : TrieM w base b0 N E n) (he : Ext w w1) : TrieM w1 base b0 N E n := { h with node := fun x k b hb => (h.node x k b hb).ext he }
theorem TrieM.lt (h : TrieM w base b0 N E n) {b : Nat} (hb : Foot N b) : b < w.heap.size := by
  obtain ⟨x, k, hb⟩ := hb
  exact (h.node x k b hb).lt
theorem TrieM.foot_ge (h : TrieM w base b0 N E n) {b : Nat} (hb : Foot N b) : base ≤ b := by
  obtain ⟨x, k, hb⟩ := hb
  exact h.ge x k b hb
theorem TrieM.none_below (h : TrieM w base b0 N E n) (a : Nat) {k j : Nat} (hk : N (top a k) k = none) (hkj : k ≤ j) (hj : j ≤ 32) : N (top a j) j = none := by
  induction j with
  | zero => obtain rfl : k = 0 := by omega
            exact hk
  | succ j ih =>
    rcases Nat.lt_or_ge k (j + 1) with h1 | h1
    · have := ih (by omega) (by omega)
      cases hn : N (top a (j + 1)) (j + 1) with
      | none => rfl
      | some b =>
        have h2 := h.par _ _ _ hn
        rw [top_top a (by omega) hj] at h2
        exact absurd this h2
    · obtain rfl : k = j + 1 := by omega
      exact hk
theorem TrieM.kid_eq (_ : TrieM w base b0 N E n) (a : Nat) {k : Nat} (hk : k < 32) : kid N (top a k) k (bitAt a k) = N (top a (k + 1)) (k + 1) := by
  rw [kid, if_pos hk, top_kid a hk]
/-- The cells of a node. -/
theorem TrieM.kid_cell (h : TrieM w base b0 N E n) {x k b : Nat} (hb : N x k = some b) {bit : Nat} (hbit : bit < 2) : w.cell? ((⟨b, 0, none⟩ : Addr).add (bit * 1)) = some (ptrV (kid N x k bit)) := by
  have hB := h.node x k b hb
  rcases (by omega : bit = 0 ∨ bit = 1) with rfl | rfl
  · exact hB.cell_add rfl
  · exact hB.cell_add rfl
theorem TrieM.has_cell (h : TrieM w base b0 N E n) {x k b : Nat} (hb : N x k = some b) : w.cell? ⟨b, 2, none⟩ = some (.bool (E x k).isSome) := (h.node x k b hb).cell rfl
theorem TrieM.val_cell (h : TrieM w base b0 N E n) {x k b : Nat} (hb : N x k = some b) : w.cell? ⟨b, 3, none⟩ = some (.int .i64 ((E x k).getD 0)) := (h.node x k b hb).cell rfl
theorem TrieM.n_cell (h : TrieM w base b0 N E n) : w.cell? ⟨b0, 4, none⟩ = some (.int .i64 n) := (h.node 0 0 b0 h.root).cell rfl
/-- A node's entry has changed. -/
theorem TrieM.setE (h : TrieM w base b0 N E n) {x k b : Nat} {E' : Nat → Nat → Option Int} (hb : N x k = some b) (hw : ∀ c, c ≠ b → w1.heap[c]? = w.heap[c]?) (hB : Blk w1 b (nodeT k) (nodeC N E' x k (nodeL k n)))
    (hE : ∀ x' k', ¬(x' = x ∧ k' = k) → E' x' k' = E x' k') : TrieM w1 base b0 N E' n := by
  refine { h with node := fun x' k' b' hb' => ?_, ent := fun x' k' v hv => ?_ }
  · by_cases e : x' = x ∧ k' = k
    · obtain ⟨rfl, rfl⟩ := e
      rw [hb] at hb'; cases hb'
      exact hB
    · have hne : b' ≠ b := fun e2 => by
        subst e2
        exact e (h.inj _ _ _ _ _ hb' hb)
      have := h.node x' k' b' hb'
      unfold Blk at *
      rw [hw b' hne, this]
      unfold nodeC
      rw [hE x' k' e]
  · by_cases e : x' = x ∧ k' = k
    · obtain ⟨rfl, rfl⟩ := e
      rw [hb]; exact fun h => nomatch h
    · rw [hE x' k' e] at hv
      exact h.ent x' k' v hv
/-- The number of entries has changed. -/
theorem TrieM.setN (h : TrieM w base b0 N E n) {n' : Int} (hw : ∀ c, c ≠ b0 → w1.heap[c]? = w.heap[c]?) (hB : Blk w1 b0 138 (nodeC N E 0 0 [.int .i64 n'])) : TrieM w1 base b0 N E n' := by
  refine { h with node := fun x' k' b' hb' => ?_ }
  by_cases e : b' = b0
  · subst e
    obtain ⟨rfl, rfl⟩ := h.inj _ _ _ _ _ hb' h.root
    exact hB
  · have := h.node x' k' b' hb'
    have hk : k' ≠ 0 := fun e2 => by
      subst e2
      have h1 := (h.can _ _ _ hb').2.1
      rw [top_zero _ (h.can _ _ _ hb').2.2] at h1
      subst h1
      rw [h.root] at hb'; cases hb'
      exact e rfl
    unfold Blk at *
    rw [hw b' e, this, nodeL, nodeL, if_neg hk, if_neg hk]
/-- A node has been added below another. -/
def addN (N : Nat → Nat → Option Nat) (x k b : Nat) : Nat → Nat → Option Nat := fun x' k' => if x' = x ∧ k' = k then some b else N x' k'
theorem TrieM.addNode (h : TrieM w base b0 N E n) {x k b bit b' : Nat} (hb : N x k = some b) (hk : k < 32) (hbit : bit < 2) (hnone : N (kidA x k bit) (k + 1) = none) (hb' : w.heap.size ≤ b') (hbase : base ≤ b')
    (hw : ∀ c, c < w.heap.size → c ≠ b → w1.heap[c]? = w.heap[c]?) (hB' : Blk w1 b' 136 [.pointer none, .pointer none, .bool false, .int .i64 0])
    (hB : Blk w1 b (nodeT k) (nodeC (addN N (kidA x k bit) (k + 1) b') E x k (nodeL k n))) : TrieM w1 base b0 (addN N (kidA x k bit) (k + 1) b') E n := by
  obtain ⟨_, hcx, hlx⟩ := h.can _ _ _ hb
  obtain ⟨ht1, ht2⟩ := kid_top hk hcx hbit
  have hold : ∀ x' k' c, N x' k' = some c → c ≠ b' := fun x' k' c hc e => by
    subst e
    have := h.lt ⟨_, _, hc⟩
    omega
  have hE0 : E (kidA x k bit) (k + 1) = none := by
    cases he : E (kidA x k bit) (k + 1) with
    | none => rfl
    | some v => exact absurd hnone (h.ent _ _ _ he)
  have hkids : ∀ bit', bit' < 2 → kid (addN N (kidA x k bit) (k + 1) b') (kidA x k bit) (k + 1) bit' = none := fun bit' hb2 => by
    unfold kid
    split
    · rename_i hlt
      rw [addN, if_neg (fun e => by omega)]
      cases hn : N (kidA (kidA x k bit) (k + 1) bit') (k + 1 + 1) with
      | none => rfl
      | some c =>
        have := h.par _ _ _ hn
        rw [(kid_top hlt ht1 hb2).2] at this
        exact absurd hnone this
    · rfl
  have cases' : ∀ x' k' c, addN N (kidA x k bit) (k + 1) b' x' k' = some c → (x' = kidA x k bit ∧ k' = k + 1 ∧ c = b') ∨ (N x' k' = some c ∧ ¬(x' = kidA x k bit ∧ k' = k + 1)) := fun x' k' c hc => by
    unfold addN at hc
    split at hc
    · rename_i e; cases hc; exact .inl ⟨e.1, e.2, rfl⟩
    · rename_i e; exact .inr ⟨hc, e⟩
  refine ⟨?_, fun x' k' c hc => ?_, fun x' k' c hc => ?_, fun x1 k1 x2 k2 c h1 h2 => ?_, fun x' k' c hc => ?_, fun x' k' v hv => ?_, fun x' k' c hc => ?_⟩
  · rw [addN, if_neg (fun e => by omega)]; exact h.root
  · rcases cases' _ _ _ hc with ⟨rfl, rfl, rfl⟩ | ⟨hc2, hne⟩
    · unfold nodeC nodeT nodeL
      rw [hkids 0 (by omega), hkids 1 (by omega), hE0, if_neg (by omega), if_neg (by omega)]
      exact hB'
    · by_cases e : c = b
      · subst e
        obtain ⟨rfl, rfl⟩ := h.inj _ _ _ _ _ hc2 hb
        exact hB
      · have hB1 := h.node _ _ _ hc2
        have hkk : ∀ bit', bit' < 2 → kid (addN N (kidA x k bit) (k + 1) b') x' k' bit' = kid N x' k' bit' := fun bit' hb2 => by
          unfold kid
          split
          · rename_i hlt
            rw [addN, if_neg]
            rintro ⟨e1, e2⟩
            obtain rfl : k' = k := by omega
            obtain ⟨rfl, _⟩ := kid_inj hlt (h.can _ _ _ hc2).2.1 hcx hb2 hbit e1
            rw [hb] at hc2; cases hc2
            exact e rfl
          · rfl
        unfold Blk nodeC at *
        rw [hw c (h.lt ⟨_, _, hc2⟩) e, hB1, hkk 0 (by omega), hkk 1 (by omega)]
  · rcases cases' _ _ _ hc with ⟨rfl, rfl, rfl⟩ | ⟨hc, _⟩
    · exact ⟨hk, ht1, kid_lt hk hcx hbit hlx⟩
    · exact h.can _ _ _ hc
  · rcases cases' _ _ _ h1 with ⟨rfl, rfl, rfl⟩ | ⟨h1, _⟩ <;> rcases cases' _ _ _ h2 with ⟨rfl, rfl, h5⟩ | ⟨h2, _⟩
    · exact ⟨rfl, rfl⟩
    · exact absurd rfl (hold _ _ _ h2)
    · exact absurd h5 (hold _ _ _ h1)
    · exact h.inj _ _ _ _ _ h1 h2
  · have key : N (top x' k') k' ≠ none := by
      rcases cases' _ _ _ hc with ⟨rfl, h5, rfl⟩ | ⟨hc, _⟩
      · obtain rfl : k' = k := by omega
        rw [ht2, hb]; exact fun h => nomatch h
      · exact h.par _ _ _ hc
    unfold addN
    split
    · exact fun h => nomatch h
    · exact key
  · have := h.ent x' k' v hv
    unfold addN
    split
    · exact fun h => nomatch h
    · exact this
  · rcases cases' _ _ _ hc with ⟨rfl, rfl, rfl⟩ | ⟨hc, _⟩
    · exact hbase
    · exact h.ge _ _ _ hc
end
end Go.Proofs.Ytjpnaofoeeegeaa


/-
  Layer 6 (trie): the walks of New, find, Get, Len, Put.
  Conditions: addresses are below 2^32.
-/
namespace Go.Proofs.Ytjpnaofoeeegeaa
open Go.RowKit

theorem bit_v (a : Nat) (k : Nat) (w : World) (ha : a < 4294967296) : Calls Try.prog 80 #[.int .u32 a, .int .i64 k] w (Ret (.int .i64 (bitAt a k)) w) := by
  refine V_enter (vs := [_, _]) Try.func80 rfl Try.ntmps80 (Nat.le_of_ble_eq_true rfl) ?_
  repeat (first | refine Vx ?_ | (apply Ops_q; (case hon => exact Va); (case hd => rfl); (case hq => exact YlA)) | refine Vr ?_ | refine Vt ?_ | refine Vf ?_ | refine Vm ?_ | refine Ve ?_ | refine Vo ?_ | refine Vz ?_ | refine Vn ?_)
  (apply Ops_q; (case hon => (exact Va)); (case hd => rfl); (case hq => exact Yl_call rfl (fun w_ e_ => atP_v a k w_ ha)))
  repeat (first | refine Vx ?_ | (apply Ops_q; (case hon => exact Va); (case hd => rfl); (case hq => exact YlA)) | refine Vr ?_ | refine Vt ?_ | refine Vf ?_ | refine Vm ?_ | refine Ve ?_ | refine Vo ?_ | refine Vz ?_ | refine Vn ?_)
  refine ret1 (by first | exact .inl rfl | exact .inr rfl) rfl rfl ?_
  exact Ret_mk rfl (Ext.refl _)
def N0 (b : Nat) : Nat → Nat → Option Nat := fun x k => if x = 0 ∧ k = 0 then some b else none
theorem new_trie {w : World} {b base : Nat} (hB : Blk w b 138 [.pointer none, .pointer none, .bool false, .int .i64 0, .int .i64 0]) (hb : base ≤ b) : TrieM w base b (N0 b) (fun _ _ => none) 0 := by
  have at0 : ∀ x k c, N0 b x k = some c → x = 0 ∧ k = 0 ∧ c = b := fun x k c h => by
    unfold N0 at h
    split at h
    · rename_i e; cases h; exact ⟨e.1, e.2, rfl⟩
    · cases h
  refine ⟨rfl, fun x k c h => ?_, fun x k c h => ?_, fun x k x' k' c h h' => ?_, fun x k c h => ?_, fun x k v h => (nomatch h), fun x k c h => ?_⟩
  · obtain ⟨rfl, rfl, rfl⟩ := at0 x k c h
    have hk : ∀ bit, kid (N0 c) 0 0 bit = none := fun bit => by
      unfold kid
      rw [if_pos (by omega), N0, if_neg (fun e => by omega)]
    unfold nodeC
    rw [hk, hk]
    exact hB
  · obtain ⟨rfl, rfl, rfl⟩ := at0 x k c h
    exact ⟨by omega, by decide, by omega⟩
  · obtain ⟨rfl, rfl, _⟩ := at0 x k c h
    obtain ⟨rfl, rfl, _⟩ := at0 x' k' c h'
    exact ⟨rfl, rfl⟩
  · have := at0 _ _ _ h
    omega
  · obtain ⟨_, _, rfl⟩ := at0 x k c h
    exact hb
theorem new_v (w : World) : Calls Try.prog 40 #[] w (Gives (fun v w' => ∃ b, v = .pointer (some ⟨b, 0, none⟩) ∧ TrieM w' w.heap.size b (N0 b) (fun _ _ => none) 0) w) := by
  refine V_enter (vs := []) Try.func40 rfl Try.ntmps40 (Nat.le_of_ble_eq_true rfl) ?_
  repeat (first | refine Vx ?_ | (apply Ops_q; (case hon => exact Va); (case hd => rfl); (case hq => exact YlA)) | refine Vr ?_ | refine Vt ?_ | refine Vf ?_ | refine Vm ?_ | refine Ve ?_ | refine Vo ?_ | refine Vz ?_ | refine Vn ?_)
  (refine Ops_box (by exact Va) rfl rfl rfl ?_; intro w1 b1 n_b1; have k_b1 := n_b1.blk)
  repeat (first | refine Vx ?_ | (apply Ops_q; (case hon => exact Va); (case hd => rfl); (case hq => exact YlA)) | refine Vr ?_ | refine Vt ?_ | refine Vf ?_ | refine Vm ?_ | refine Ve ?_ | refine Vo ?_ | refine Vz ?_ | refine Vn ?_)
  refine ret1 (by first | exact .inl rfl | exact .inr rfl) rfl rfl ?_
  exact Gives_mk (fun w' h => ⟨b1, rfl, (new_trie k_b1 n_b1.ge).ext h⟩) n_b1.ext
theorem ptrV_none : ptrV none = .pointer none := rfl
theorem ptrV_some (b : Nat) : ptrV (some b) = .pointer (some ⟨b, 0, none⟩) := rfl
/-- The entry of a valid prefix. -/
abbrev at_ (E : Nat → Nat → Option Int) (p : Pf) : Option Int := E p.a p.n.toNat
theorem TrieM.at_none {w : World} {base b0 : Nat} {N : Nat → Nat → Option Nat} {E : Nat → Nat → Option Int} {n : Int} (h : TrieM w base b0 N E n) {x k : Nat} (hn : N x k = none) : E x k = none := by
  cases he : E x k with
  | none => rfl
  | some v => exact absurd hn (h.ent _ _ _ he)
end Go.Proofs.Ytjpnaofoeeegeaa


/-
  Layer 6 (trie): the walk of Put.
  Conditions: addresses are below 2^32.
-/
namespace Go.Proofs.Ytjpnaofoeeegeaa
open Go.RowKit

def setE (E : Nat → Nat → Option Int) (p : Pf) (v : Int) : Nat → Nat → Option Int := fun x k => if x = p.a ∧ k = p.n.toNat then some v else E x k
section
variable {w w1 : World} {base b0 : Nat} {N : Nat → Nat → Option Nat} {E : Nat → Nat → Option Int} {n : Int}
theorem kid_add_same (N : Nat → Nat → Option Nat) {x k bit b' : Nat} (hk : k < 32) : kid (addN N (kidA x k bit) (k + 1) b') x k bit = some b' := by
  rw [kid, if_pos hk, addN, if_pos ⟨rfl, rfl⟩]
theorem kid_add_other (N : Nat → Nat → Option Nat) {x k bit bit' b' : Nat} (hk : k < 32) (hx : top x k = x) (hb : bit < 2) (hb' : bit' < 2) (hne : bit' ≠ bit) : kid (addN N (kidA x k bit) (k + 1) b') x k bit' = kid N x k bit' := by
  rw [kid, if_pos hk, kid, if_pos hk, addN, if_neg]
  rintro ⟨e, _⟩
  exact hne (kid_inj hk hx hx hb' hb e).2
theorem foot_add {N : Nat → Nat → Option Nat} {x k b' c : Nat} (h : Foot (addN N x k b') c) : Foot N c ∨ c = b' := by
  obtain ⟨y, j, h⟩ := h
  unfold addN at h
  split at h
  · cases h; exact .inr rfl
  · exact .inl ⟨y, j, h⟩
end
/-- What Put leaves. -/
def PutR (base b0 : Nat) (N : Nat → Nat → Option Nat) (E : Nat → Nat → Option Int) (n : Int) (p : Pf) (v : Int) (w : World) (r : Value) (w' : World) : Prop :=
  r = .tuple #[.bool (at_ E p).isNone, .int .i64 0] ∧ ∃ N', TrieM w' base b0 N' (setE E p v) (if (at_ E p).isNone then n + 1 else n) ∧ ∀ c, Foot N' c → Foot N c ∨ w.heap.size ≤ c
theorem put_bad (b0 : Nat) (p : Pf) (v : Int) (w : World) (ha : p.a < 4294967296) (hv : p.valid = false) :
    Calls Try.prog 41 #[.pointer (some ⟨b0, 0, none⟩), p.val, .int .i64 v] w (Ret (.tuple #[.bool false, .int .i64 1]) w) := by
  refine V_enter (vs := [_, _, _]) Try.func41 rfl Try.ntmps41 (Nat.le_of_ble_eq_true rfl) ?_
  repeat (first | refine Vx ?_ | (apply Ops_q; (case hon => exact Va); (case hd => rfl); (case hq => exact YlA)) | refine Vr ?_ | refine Vt ?_ | refine Vf ?_ | refine Vm ?_ | refine Ve ?_ | refine Vo ?_ | refine Vz ?_ | refine Vn ?_)
  (refine Ops_box (by exact Va) rfl rfl rfl ?_; intro w1 b1 n_b1; have k_b1 := n_b1.blk)
  repeat (first | refine Vx ?_ | (apply Ops_q; (case hon => exact Va); (case hd => rfl); (case hq => exact YlA)) | refine Vr ?_ | refine Vt ?_ | refine Vf ?_ | refine Vm ?_ | refine Ve ?_ | refine Vo ?_ | refine Vz ?_ | refine Vn ?_)
  (apply Ops_q; (case hon => (exact Va)); (case hd => rfl); (case hq => exact Yl_call rfl (fun w_ e_ => valid_v p w_ ha)))
  rw [hv]
  repeat (first | refine Vx ?_ | (apply Ops_q; (case hon => exact Va); (case hd => rfl); (case hq => exact YlA)) | refine Vr ?_ | refine Vt ?_ | refine Vf ?_ | refine Vm ?_ | refine Ve ?_ | refine Vo ?_ | refine Vz ?_ | refine Vn ?_)
  refine ret2 (by first | exact .inl rfl | exact .inr rfl) rfl rfl rfl ?_
  exact Ret_mk rfl n_b1.ext
set_option maxHeartbeats 1000000 in
theorem put_v {base b0 : Nat} {N : Nat → Nat → Option Nat} {E : Nat → Nat → Option Int} {n : Int} (p : Pf) (v : Int) (w : World) (h : TrieM w base b0 N E n) (ha : p.a < 4294967296) (hv : p.valid = true) (hbase : base ≤ w.heap.size) (hn0 : 0 ≤ n) (hn1 : n ≤ 4611686018427387904) :
    Calls Try.prog 41 #[.pointer (some ⟨b0, 0, none⟩), p.val, .int .i64 v] w (Does (Foot N) (PutR base b0 N E n p v w) w) := by
  obtain ⟨v1, v2, v3⟩ := Pf.valid_iff.1 hv
  obtain ⟨len, hlen⟩ : ∃ len : Nat, p.n = len := ⟨p.n.toNat, by omega⟩
  have hat : at_ E p = E p.a len := by rw [at_, hlen, Int.toNat_natCast]
  rw [hlen, Int.toNat_natCast] at v3
  have hl32 : len ≤ 32 := by omega
  refine V_enter (vs := [_, _, _]) Try.func41 rfl Try.ntmps41 (Nat.le_of_ble_eq_true rfl) ?_
  repeat (first | refine Vx ?_ | (apply Ops_q; (case hon => exact Va); (case hd => rfl); (case hq => exact YlA)) | refine Vr ?_ | refine Vt ?_ | refine Vf ?_ | refine Vm ?_ | refine Ve ?_ | refine Vo ?_ | refine Vz ?_ | refine Vn ?_)
  (refine Ops_box (by exact Va) rfl rfl rfl ?_; intro w1 b1 n_b1; have k_b1 := n_b1.blk)
  rw [hlen] at k_b1
  have hst : N (top p.a 0) 0 = some b0 := by rw [top_zero _ ha, h.root]
  have hf1 : ¬Foot N b1 := fun hf => by have := h.lt hf; have := n_b1.ge; omega
  replace h := h.ext n_b1.ext
  repeat (first | refine Vx ?_ | (apply Ops_q; (case hon => exact Va); (case hd => rfl); (case hq => exact YlA)) | refine Vr ?_ | refine Vt ?_ | refine Vf ?_ | refine Vm ?_ | refine Ve ?_ | refine Vo ?_ | refine Vz ?_ | refine Vn ?_)
  have hpv : (⟨p.a, (len : Int)⟩ : Pf).valid = true := by rw [← hlen]; exact hv
  (apply Ops_q; (case hon => (exact Va)); (case hd => rfl); (case hq => exact Yl_call rfl (fun w_ e_ => valid_v (⟨p.a, (len : Int)⟩ : Pf) w_ ha)))
  rw [hpv]
  repeat (first | refine Vx ?_ | (apply Ops_q; (case hon => exact Va); (case hd => rfl); (case hq => exact YlA)) | refine Vr ?_ | refine Vt ?_ | refine Vf ?_ | refine Vm ?_ | refine Ve ?_ | refine Vo ?_ | refine Vz ?_ | refine Vn ?_)
  refine V_loop (fun s : Nat × Nat × (Nat → Nat → Option Nat) => [(22, .int .i64 s.1), (8, .pointer (some ⟨s.2.1, 0, none⟩)), (21, .int .i64 len), (4, .pointer (some ⟨b1, 0, none⟩)), (0, .pointer (some ⟨b0, 0, none⟩)), (2, .int .i64 v)])
    (fun s w' => Mod (Foot N) w w' ∧ s.1 ≤ len ∧ TrieM w' base b0 s.2.2 E n ∧ Blk w' b1 40 [.int .u32 p.a, .int .i64 len] ∧ s.2.2 (top p.a s.1) s.1 = some s.2.1 ∧ (∀ c, Foot s.2.2 c → Foot N c ∨ w.heap.size ≤ c) ∧ ¬Foot s.2.2 b1) (fun s => len - s.1) (0, b0, N)
    (by repeat (first | exact trivial | refine ⟨rfl, ?_⟩)) ⟨.of_ext n_b1.ext, Nat.zero_le _, h, k_b1, hst, fun c hc => .inl hc, hf1⟩ ?_
  clear h hf1 hst k_b1
  rintro ⟨k, b, M⟩ w2 ⟨m2, hk, h, k_b1, hb, hf, hf1⟩
  dsimp only at hk h hb hf hf1 ⊢
  repeat (first | refine Vx ?_ | (apply Ops_q; (case hon => exact Va); (case hd => rfl); (case hq => exact YlA)) | refine Vr ?_ | refine Vt ?_ | refine Vf ?_ | refine Vm ?_ | refine Ve ?_ | refine Vo ?_ | refine Vz ?_ | refine Vn ?_)
  refine V_cond rfl (fun hg => ?_) (fun hg => ?_)
  · replace hg := of_decide_eq_true hg
    have hkl : k < len := by omega
    have hk32 : k < 32 := by omega
    have hkc := h.kid_cell hb (bit_lt p.a k)
    have hb2 := bit_lt p.a k
    have hcan := h.can _ _ _ hb
    have hkid := top_kid p.a hk32
    repeat (first | refine Vx ?_ | (apply Ops_q; (case hon => exact Va); (case hd => rfl); (case hq => exact YlA)) | refine Vr ?_ | refine Vt ?_ | refine Vf ?_ | refine Vm ?_ | refine Ve ?_ | refine Vo ?_ | refine Vz ?_ | refine Vn ?_)
    (apply Ops_q; (case hon => (exact Va)); (case hd => rfl); (case hq => exact Yl_call rfl (fun w_ e_ => bit_v p.a k w_ ha)))
    repeat (first | refine Vx ?_ | (apply Ops_q; (case hon => exact Va); (case hd => rfl); (case hq => exact YlA)) | refine Vr ?_ | refine Vt ?_ | refine Vf ?_ | refine Vm ?_ | refine Ve ?_ | refine Vo ?_ | refine Vz ?_ | refine Vn ?_)
    (apply Ops_q; (case hon => (exact Va)); (case hd => rfl); (case hq => exact Yl_indexA (j := (bitAt p.a k)) rfl rfl (by first | exact Nat.le_of_ble_eq_true rfl | omega)))
    repeat (first | refine Vx ?_ | (apply Ops_q; (case hon => exact Va); (case hd => rfl); (case hq => exact YlA)) | refine Vr ?_ | refine Vt ?_ | refine Vf ?_ | refine Vm ?_ | refine Ve ?_ | refine Vo ?_ | refine Vz ?_ | refine Vn ?_)
    refine V_meet1 (fun M : Nat → Nat → Option Nat => [(22, .int .i64 k), (8, .pointer (some ⟨b, 0, none⟩)), (10, .int .i64 (bitAt p.a k)), (21, .int .i64 len), (4, .pointer (some ⟨b1, 0, none⟩)), (0, .pointer (some ⟨b0, 0, none⟩)), (2, .int .i64 v)])
      (fun M w' => Mod (Foot N) w w' ∧ TrieM w' base b0 M E n ∧ Blk w' b1 40 [.int .u32 p.a, .int .i64 len] ∧ M (top p.a k) k = some b ∧ (∃ b', M (top p.a (k + 1)) (k + 1) = some b') ∧ (∀ c, Foot M c → Foot N c ∨ w.heap.size ≤ c) ∧ ¬Foot M b1) ?_ ?_
    · cases hkb : kid M (top p.a k) k (bitAt p.a k) with
      | some b' =>
        rw [ptrV_some]
        repeat (first | refine Vx ?_ | (apply Ops_q; (case hon => exact Va); (case hd => rfl); (case hq => exact YlA)) | refine Vr ?_ | refine Vt ?_ | refine Vf ?_ | refine Vm ?_ | refine Ve ?_ | refine Vo ?_ | refine Vz ?_ | refine Vn ?_)
        refine ⟨M, (by repeat (first | exact trivial | refine ⟨rfl, ?_⟩)), m2, h, k_b1, hb, ⟨b', ?_⟩, hf, hf1⟩
        rw [kid, if_pos hk32, ← hkid] at hkb; exact hkb
      | none =>
        rw [ptrV_none]
        have hnone : M (kidA (top p.a k) k (bitAt p.a k)) (k + 1) = none := by rw [kid, if_pos hk32] at hkb; exact hkb
        rw [hkid]
        generalize bitAt p.a k = bit at *
        generalize top p.a k = x at *
        repeat (first | refine Vx ?_ | (apply Ops_q; (case hon => exact Va); (case hd => rfl); (case hq => exact YlA)) | refine Vr ?_ | refine Vt ?_ | refine Vf ?_ | refine Vm ?_ | refine Ve ?_ | refine Vo ?_ | refine Vz ?_ | refine Vn ?_)
        (refine Ops_box (by exact Va) rfl rfl rfl ?_; intro w3 b3 n_b3; have k_b3 := n_b3.blk)
        have hB := h.node _ _ _ hb
        have hne : b ≠ b3 := fun e => by have := hB.lt; have := n_b3.ge; omega
        have hB3 : Blk w3 b (nodeT k) (ptrV (kid M x k 0) :: ptrV (kid M x k 1) :: .bool (E x k).isSome :: .int .i64 ((E x k).getD 0) :: nodeL k n) := hB.ext n_b3.ext
        have g3 : w.heap.size ≤ b3 := Nat.le_trans m2.size n_b3.ge
        have hbS : Foot N b ∨ w.heap.size ≤ b := hf b ⟨_, _, hb⟩
        have hne1 : b1 ≠ b := fun e => hf1 (by rw [e]; exact ⟨_, _, hb⟩)
        have hfin : ∀ w4, Upd w3 w4 b (nodeT k) (nodeC (addN M (kidA x k bit) (k + 1) b3) E x k (nodeL k n)) → ∃ M', Mod (Foot N) w w4 ∧ TrieM w4 base b0 M' E n ∧ Blk w4 b1 40 [.int .u32 p.a, .int .i64 len] ∧ M' x k = some b ∧ (∃ b', M' (kidA x k bit) (k + 1) = some b') ∧ (∀ c, Foot M' c → Foot N c ∨ w.heap.size ≤ c) ∧ ¬Foot M' b1 := fun w4 u => by
          refine ⟨addN M (kidA x k bit) (k + 1) b3, (m2.ext n_b3.ext).upd u hbS, ?_, ?_, ?_, ⟨b3, ?_⟩, fun c hc => ?_, fun hc => ?_⟩
          · refine h.addNode hb hk32 hb2 hnone n_b3.ge (Nat.le_trans hbase g3) (fun c hc hcb => by rw [u.other c hcb, n_b3.ext.block c hc]) (u.keep k_b3 (Ne.symm hne)) u.blk
          · exact u.keep (k_b1.ext n_b3.ext) hne1
          · rw [addN, if_neg (fun e => by omega)]; exact hb
          · rw [addN, if_pos ⟨rfl, rfl⟩]
          · rcases foot_add hc with hc | rfl
            · exact hf c hc
            · exact .inr g3
          · rcases foot_add hc with hc | e
            · exact hf1 hc
            · have := k_b1.lt; have := n_b3.ge; omega
        repeat (first | refine Vx ?_ | (apply Ops_q; (case hon => exact Va); (case hd => rfl); (case hq => exact YlA)) | refine Vr ?_ | refine Vt ?_ | refine Vf ?_ | refine Vm ?_ | refine Ve ?_ | refine Vo ?_ | refine Vz ?_ | refine Vn ?_)
        rcases (by omega : bit = 0 ∨ bit = 1) with rfl | rfl
        · (apply Ops_q; (case hon => (exact Va)); (case hd => rfl); (case hq => exact Yl_indexA (j := 0) rfl rfl (by first | exact Nat.le_of_ble_eq_true rfl | omega)))
          (refine Ops_store (by exact Va) rfl rfl hB3 (by rfl) ?_; intro w4 u_w4)
          have e1 : nodeC (addN M (kidA x k 0) (k + 1) b3) E x k (nodeL k n) = .pointer (some ⟨b3, 0, none⟩) :: ptrV (kid M x k 1) :: .bool (E x k).isSome :: .int .i64 ((E x k).getD 0) :: nodeL k n := by
            rw [nodeC, kid_add_same M hk32, kid_add_other M hk32 hcan.2.1 hb2 (by omega) (by omega)]; rfl
          rw [← e1] at u_w4
          obtain ⟨M', h1⟩ := hfin w4 u_w4
          repeat (first | refine Vx ?_ | (apply Ops_q; (case hon => exact Va); (case hd => rfl); (case hq => exact YlA)) | refine Vr ?_ | refine Vt ?_ | refine Vf ?_ | refine Vm ?_ | refine Ve ?_ | refine Vo ?_ | refine Vz ?_ | refine Vn ?_)
          exact ⟨M', (by repeat (first | exact trivial | refine ⟨rfl, ?_⟩)), h1⟩
        · (apply Ops_q; (case hon => (exact Va)); (case hd => rfl); (case hq => exact Yl_indexA (j := 1) rfl rfl (by first | exact Nat.le_of_ble_eq_true rfl | omega)))
          (refine Ops_store (by exact Va) rfl rfl hB3 (by rfl) ?_; intro w4 u_w4)
          have e1 : nodeC (addN M (kidA x k 1) (k + 1) b3) E x k (nodeL k n) = ptrV (kid M x k 0) :: .pointer (some ⟨b3, 0, none⟩) :: .bool (E x k).isSome :: .int .i64 ((E x k).getD 0) :: nodeL k n := by
            rw [nodeC, kid_add_same M hk32, kid_add_other M hk32 hcan.2.1 hb2 (by omega) (by omega)]; rfl
          rw [← e1] at u_w4
          obtain ⟨M', h1⟩ := hfin w4 u_w4
          repeat (first | refine Vx ?_ | (apply Ops_q; (case hon => exact Va); (case hd => rfl); (case hq => exact YlA)) | refine Vr ?_ | refine Vt ?_ | refine Vf ?_ | refine Vm ?_ | refine Ve ?_ | refine Vo ?_ | refine Vz ?_ | refine Vn ?_)
          exact ⟨M', (by repeat (first | exact trivial | refine ⟨rfl, ?_⟩)), h1⟩
    · clear hkc h hb hf hf1 m2 k_b1
      rintro M w3 ⟨m3, h, k_b1, hb, ⟨b', hb'⟩, hf, hf1⟩
      have hkc := h.kid_cell hb (bit_lt p.a k)
      rw [h.kid_eq p.a hk32, hb', ptrV_some] at hkc
      repeat (first | refine Vx ?_ | (apply Ops_q; (case hon => exact Va); (case hd => rfl); (case hq => exact YlA)) | refine Vr ?_ | refine Vt ?_ | refine Vf ?_ | refine Vm ?_ | refine Ve ?_ | refine Vo ?_ | refine Vz ?_ | refine Vn ?_)
      (apply Ops_q; (case hon => (exact Va)); (case hd => rfl); (case hq => exact Yl_indexA (j := (bitAt p.a k)) rfl rfl (by first | exact Nat.le_of_ble_eq_true rfl | omega)))
      repeat (first | refine Vx ?_ | (apply Ops_q; (case hon => exact Va); (case hd => rfl); (case hq => exact YlA)) | refine Vr ?_ | refine Vt ?_ | refine Vf ?_ | refine Vm ?_ | refine Ve ?_ | refine Vo ?_ | refine Vz ?_ | refine Vn ?_)
      exact ⟨(k + 1, b', M), (by repeat (first | exact trivial | refine ⟨rfl, ?_⟩)), ⟨m3, hkl, h, k_b1, hb', hf, hf1⟩, by simp only; omega⟩
  replace hg := of_decide_eq_false hg
  obtain rfl : k = len := by omega
  rw [v3] at hb
  have h1 := h.has_cell hb
  have hB : Blk w2 b (nodeT k) (ptrV (kid M p.a k 0) :: ptrV (kid M p.a k 1) :: .bool (E p.a k).isSome :: .int .i64 ((E p.a k).getD 0) :: nodeL k n) := h.node _ _ _ hb
  have hbS : Foot N b ∨ w.heap.size ≤ b := hf b ⟨_, _, hb⟩
  repeat (first | refine Vx ?_ | (apply Ops_q; (case hon => exact Va); (case hd => rfl); (case hq => exact YlA)) | refine Vr ?_ | refine Vt ?_ | refine Vf ?_ | refine Vm ?_ | refine Ve ?_ | refine Vo ?_ | refine Vz ?_ | refine Vn ?_)
  (refine Ops_store (by exact Va) rfl rfl hB (by rfl) ?_; intro w3 u_w3)
  repeat (first | refine Vx ?_ | (apply Ops_q; (case hon => exact Va); (case hd => rfl); (case hq => exact YlA)) | refine Vr ?_ | refine Vt ?_ | refine Vf ?_ | refine Vm ?_ | refine Ve ?_ | refine Vo ?_ | refine Vz ?_ | refine Vn ?_)
  have hB3 := u_w3.blk
  (refine Ops_store (by exact Va) rfl rfl hB3 (by rfl) ?_; intro w4 u_w4)
  have m4 := (m2.upd u_w3 hbS).upd u_w4 hbS
  have hsE : setE E p v p.a k = some v := by rw [setE, hlen, Int.toNat_natCast, if_pos ⟨rfl, rfl⟩]
  have h4 : TrieM w4 base b0 M (setE E p v) n := h.setE hb (fun c hc => by rw [u_w4.other c hc, u_w3.other c hc]) (by unfold nodeC; rw [hsE]; exact u_w4.blk) (fun x' k' hne => by
    rw [setE, if_neg]
    rw [hlen, Int.toNat_natCast]; exact hne)
  repeat (first | refine Vx ?_ | (apply Ops_q; (case hon => exact Va); (case hd => rfl); (case hq => exact YlA)) | refine Vr ?_ | refine Vt ?_ | refine Vf ?_ | refine Vm ?_ | refine Ve ?_ | refine Vo ?_ | refine Vz ?_ | refine Vn ?_)
  refine V_cond rfl (fun h5 => ?_) (fun h5 => ?_)
  · have h6 : (at_ E p).isNone = true := by rw [hat]; simpa using h5
    have hR := h4.n_cell
    have hB0 : Blk w4 b0 138 (ptrV (kid M 0 0 0) :: ptrV (kid M 0 0 1) :: .bool (setE E p v 0 0).isSome :: .int .i64 ((setE E p v 0 0).getD 0) :: [.int .i64 n]) := h4.node _ _ _ h4.root
    repeat (first | refine Vx ?_ | (apply Ops_q; (case hon => exact Va); (case hd => rfl); (case hq => exact YlA)) | refine Vr ?_ | refine Vt ?_ | refine Vf ?_ | refine Vm ?_ | refine Ve ?_ | refine Vo ?_ | refine Vz ?_ | refine Vn ?_)
    (refine Ops_store (by exact Va) rfl rfl hB0 (by rfl) ?_; intro w5 u_w5)
    have h7 := h4.setN u_w5.other u_w5.blk
    have m5 := m4.upd u_w5 (hf b0 ⟨_, _, h4.root⟩)
    repeat (first | refine Vx ?_ | (apply Ops_q; (case hon => exact Va); (case hd => rfl); (case hq => exact YlA)) | refine Vr ?_ | refine Vt ?_ | refine Vf ?_ | refine Vm ?_ | refine Ve ?_ | refine Vo ?_ | refine Vz ?_ | refine Vn ?_)
    refine ret2 (by first | exact .inl rfl | exact .inr rfl) rfl rfl rfl ?_
    refine Does_mk (fun w' he => ⟨by rw [hat]; cases hE : E p.a k <;> rw [hE] at h5 <;> simp at h5 ⊢, M, ?_, hf⟩) m5
    rw [h6]; exact h7.ext he
  · have h6 : (at_ E p).isNone = false := by rw [hat]; simpa using h5
    repeat (first | refine Vx ?_ | (apply Ops_q; (case hon => exact Va); (case hd => rfl); (case hq => exact YlA)) | refine Vr ?_ | refine Vt ?_ | refine Vf ?_ | refine Vm ?_ | refine Ve ?_ | refine Vo ?_ | refine Vz ?_ | refine Vn ?_)
    refine ret2 (by first | exact .inl rfl | exact .inr rfl) rfl rfl rfl ?_
    refine Does_mk (fun w' he => ⟨by rw [hat]; cases hE : E p.a k <;> rw [hE] at h5 <;> simp at h5 ⊢, M, ?_, hf⟩) m4
    rw [h6]; exact h4.ext he
end Go.Proofs.Ytjpnaofoeeegeaa


/-
  Regions that draw their order and hold one operation among the first that makes memory out of what the others give (the literal of a slice).
  No conditions beyond those that each rule states.
-/
namespace Go.Proofs.Ytjpnaofoeeegeaa
open Go.RowKit

section
variable {P : Program} {md : Region.Mode} {ops : Array Oper}
/-- In every world that has grown from w0 the operation leaves a value of which R is known, and a world that has grown. -/
def Late (P : Program) (w0 : World) (R : Value → World → Prop) (o : Oper) (a : Act) : Prop :=
  ∀ w', Ext w0 w' → ∃ x w'', (execOp a.eval o).run P w' = .ok (.value x) w'' ∧ Ext w' w'' ∧ R x w''
def lateY (P : Program) (w0 : World) (R : Value → World → Prop) (d : Nat) (o : Oper) (a : Act) (v : Value) : Prop :=
  if o.dst = some d then v = undef ∧ Late P w0 R o a else yW P w0 o a v
theorem same_lateY (P : Program) (w0 : World) (R : Value → World → Prop) (d : Nat) : Same (lateY P w0 R d) := fun o a a' v he h => by
  unfold lateY at *
  split at h
  · rename_i hd
    rw [if_pos hd]
    refine ⟨h.1, fun w' hw' => ?_⟩
    rw [he]; exact h.2 w' hw'
  · rename_i hd
    rw [if_neg hd]
    exact same_yW P w0 o a a' v he h

theorem late_any {n s d : Nat} (early : Nat → Bool) {Q1 : Act → Prop} {Q : Exit → Act → World → Prop} {w0 : World} {R : Value → World → Prop} {pre : Array Oper} (hR : ∀ x w w', Ext w w' → R x w → R x w') (hn : n ≤ ops.size) (hP : ∀ i o, i < n → ops[i]? = some o → pre[i]? = some o)
    (hA : ∀ i, n ≤ i → i < ops.size → ∀ j, j < n → early j = true ∨ reach ops md 9 i j = true)
    (hE : ∀ i o, ops[i]? = some o → i < n → ∀ e ∈ o.after, e.on < i)
    (hG : ∀ i o, ops[i]? = some o → i < n → ∀ g, o.guard = some g → g.1 < n ∧ ∀ o', ops[g.1]? = some o' → o'.dst ≠ some d)
    (hsel : ∀ (j : Nat) (o : Oper) cs b, ops[j]? = some o → j < n → o.op ≠ .select cs b)
    (hD : ∀ i o, ops[i]? = some o → i < n → d ∉ o.looksAt ops)
    (hg0 : ∀ i o, ops[i]? = some o → i < n → o.dst = some d → o.guard = none)
    (hin : ∃ i o, i < n ∧ ops[i]? = some o ∧ o.dst = some d)
    (last : ∀ a' a w, Ext w0 w → Q1 a' → But [d] a' a → (∃ x, a.tmps[d]? = some x ∧ R x w) → wpAny P md ops Q s (upto ops.size n) a w) :
    ∀ (f : Nat) (L L' : Array Bool) (a' a : Act) (w : World), Ext w0 w → L'.size = n → L.size = ops.size → (∀ j, j < n → L[j]? = L'[j]?) → (∀ j, n ≤ j → j < ops.size → L[j]? = some false) → cnt n L' = f →
      (∀ j, j < n → early j = true → L[j]? = some true) → Closed ops md L → But [d] a' a → d < a.tmps.size → ((∃ i o, L[i]? = some true ∧ i < n ∧ ops[i]? = some o ∧ o.dst = some d) → ∃ x, a.tmps[d]? = some x ∧ R x w) →
      anyY md pre (lateY P w0 R d) Q1 f L' a' → wpAny P md ops Q (f + s) L a w := by
  intro f
  induction f with
  | zero =>
    intro L L' a' a w hC hs' hs h1 h2 hc hea hcl hbut hDs hm h
    have hlist : ∀ j, j < n → L[j]? = some true := fun j hj => by
      rw [h1 j hj]
      have := List.countP_eq_zero.1 hc j (List.mem_range.2 hj)
      have hlt : j < L'.size := by omega
      simp [hlt] at this
      simp [hlt, this]
    have hL : L = upto ops.size n := by
      refine Array.ext_getElem? fun j => ?_
      rcases Nat.lt_or_ge j ops.size with hj | hj
      · rw [upto_get _ _ _ hj]
        rcases Nat.lt_or_ge j n with hjn | hjn
        · rw [hlist j hjn]; simp [hjn]
        · rw [h2 j hjn hj]; simp; omega
      · rw [Array.getElem?_eq_none (by omega), Array.getElem?_eq_none (by rw [upto_size]; omega)]
    rw [Nat.zero_add]
    obtain ⟨i, o, hi, ho, hd⟩ := hin
    have hm' := hm ⟨i, o, hlist i hi, hi, ho, hd⟩
    rw [hL]
    exact last a' a w hC h.2 hbut hm'
  | succ f ih =>
    intro L L' a' a w hC hs' hs h1 h2 hc hea hcl hbut hDs hm h
    rw [Nat.succ_add]
    have un : ∃ j, j < n ∧ L'[j]? = some false ∧ ∀ k, k < j → L'[k]? = some true := by
      have hpos : 0 < cnt n L' := by omega
      obtain ⟨j, hj, hjf⟩ := List.countP_pos_iff.1 hpos
      have hjn := List.mem_range.1 hj
      have hjl : j < L'.size := by omega
      have hjf' : L'[j]? = some false := by simp [hjl] at hjf ⊢; exact hjf
      clear hj hjf hjl
      induction j using Nat.strongRecOn with
      | ind j ihj =>
        by_cases hall : ∀ k, k < j → L'[k]? = some true
        · exact ⟨j, hjn, hjf', hall⟩
        · obtain ⟨k, hk⟩ := Classical.not_forall.1 hall
          obtain ⟨hkj, hk⟩ := Classical.not_imp.1 hk
          have hkl : k < L'.size := by omega
          refine ihj k hkj (by omega) ?_
          rw [Array.getElem?_eq_getElem hkl] at hk ⊢
          cases hb : L'[k] with
          | true => rw [hb] at hk; exact absurd rfl hk
          | false => rfl
    obtain ⟨j0, hj0, hjf, hbelow⟩ := un
    have on_lt : ∀ {i : Nat} {o : Oper} {e : Edge}, ops[i]? = some o → i < n → e ∈ o.after → L.getD e.on false = L'.getD e.on false := fun ho hi he => by
      have h4 := hE _ _ ho hi _ he
      rename_i i0 o0 e0
      have h3 := h1 e0.on (by omega)
      rw [Array.getD_eq_getD_getElem?, Array.getD_eq_getD_getElem?, h3]
    have lt_n : ∀ i, i ∈ Region.ready md ops L → i < n := fun i hi => by
      obtain ⟨_, o, ho, hall⟩ := mem_ready.1 hi
      rcases Nat.lt_or_ge i n with h3 | h3
      · exact h3
      · have hlt : i < ops.size := by
          rcases Nat.lt_or_ge i ops.size with h' | h'
          · exact h'
          · rw [Array.getElem?_eq_none h'] at ho; cases ho
        rcases hA i h3 hlt j0 hj0 with h4 | h4
        · have := hea j0 hj0 h4
          rw [h1 j0 hj0, hjf] at this; cases this
        · have := reach_listed hcl 9 i j0 (fun o' ho' => by obtain rfl := Option.some.inj (ho.symm.trans ho'); exact hall) h4
          rw [getD_of ((h1 j0 hj0).trans hjf)] at this
          cases this
    refine ⟨fun hr => ?_, fun i hi => ?_⟩
    · exfalso
      have hmem : j0 ∈ Region.ready md ops L := by
        have hlt : j0 < ops.size := by omega
        refine mem_ready.2 ⟨getD_of ((h1 j0 hj0).trans hjf) _, ops[j0], Array.getElem?_eq_getElem hlt, fun e he _ => ?_⟩
        have hlt' := hE j0 _ (Array.getElem?_eq_getElem hlt) hj0 e he
        exact getD_of ((h1 _ (by omega)).trans (hbelow _ hlt')) _
      rw [hr] at hmem; cases hmem
    · have hin' := lt_n i hi
      have hcl' := hcl.set hi
      obtain ⟨hun, o, ho, hall⟩ := mem_ready.1 hi
      have hpo : pre[i]? = some o := hP i o hin' ho
      have hun' : L'.getD i true = false := by
        have := h1 i hin'
        simp only [Array.getD_eq_getD_getElem?, ← this] at hun ⊢; exact hun
      have hi' : i ∈ Region.ready md pre L' := mem_ready.2 ⟨hun', o, hpo, fun e he hb => by rw [← on_lt ho hin' he]; exact hall e he hb⟩
      have hq := (stepY_iff hpo).1 (h.2 i hi')
      obtain ⟨v, hv, hK⟩ := hq
      have hset : ∀ j, j < n → (L.setIfInBounds i true)[j]? = (L'.setIfInBounds i true)[j]? := fun j hj => by
        by_cases e : i = j
        · subst e
          have hl1 : i < L.size := by omega
          have hl2 : i < L'.size := by omega
          simp [hl1, hl2]
        · rw [Array.getElem?_setIfInBounds_ne e, Array.getElem?_setIfInBounds_ne e]; exact h1 j hj
      have hset2 : ∀ j, n ≤ j → j < ops.size → (L.setIfInBounds i true)[j]? = some false := fun j hj hjs => by
        rw [Array.getElem?_setIfInBounds_ne (by omega)]; exact h2 j hj hjs
      have hea' : ∀ j, j < n → early j = true → (L.setIfInBounds i true)[j]? = some true := fun j hj he => by
        by_cases e : i = j
        · subst e
          have hl1 : i < L.size := by omega
          simp [hl1]
        · rw [Array.getElem?_setIfInBounds_ne e]; exact hea j hj he
      have hc' : cnt n (L'.setIfInBounds i true) = f := by have := cnt_set n L' i hin' hun'; omega
      have old : ∀ k, (L.setIfInBounds i true)[k]? = some true → k ≠ i → L[k]? = some true := fun k hk hki => by
        rwa [Array.getElem?_setIfInBounds_ne (Ne.symm hki)] at hk
      have hex : execOp a.eval o = execOp a'.eval o := hbut.exec o (fun cs b => hsel i o cs b ho hin') (fun x hx => by rw [List.mem_singleton.1 hx]; exact hD i o ho hin')
      unfold wpOp
      simp only [ho]
      by_cases hdo : o.dst = some d
      · have hgn := hg0 i o ho hin' hdo
        have hwt : ∀ y, Region.wanted o y = true := fun y => by unfold Region.wanted; rw [hgn]
        rw [if_pos (hwt _)]
        rcases hv with ⟨_, hy⟩ | ⟨hwn, _⟩
        · unfold lateY at hy
          rw [if_pos hdo] at hy
          obtain ⟨rfl, hl⟩ := hy
          obtain ⟨x, w'', hrun, hext, hRx⟩ := hl w hC
          rw [← hex] at hrun
          refine .inl ?_
          unfold Oper.wp
          rw [hrun]
          show wpAny P md ops Q (f + s) (L.setIfInBounds i true) (a.put o.dst x) w''
          rw [hdo] at hK ⊢
          have hb2 : But [d] (a'.put (some d) undef) (a.put (some d) x) := by
            refine ⟨hbut.defers, by simp [Act.put, hbut.size], fun k hk => ?_⟩
            have hne : d ≠ k := fun e => hk (by rw [e]; exact List.mem_singleton.2 rfl)
            simp only [Act.put]
            rw [Array.getElem?_setIfInBounds_ne hne, Array.getElem?_setIfInBounds_ne hne]
            exact hbut.slot k hk
          exact ih _ _ _ _ w'' (hC.trans hext) (by simpa using hs') (by simpa using hs) hset hset2 hc' hea' hcl' hb2 (by simp [Act.put, hDs]) (fun _ => ⟨x, by simp [Act.put, hDs], hRx⟩) hK
        · rw [hwt] at hwn; cases hwn
      · have hw : Region.wanted o (yielded pre a'.tmps) = Region.wanted o (yielded ops a.tmps) := by
          unfold Region.wanted
          cases hg : o.guard with
          | none => rfl
          | some gd =>
            obtain ⟨hg1, hg2⟩ := hG i o ho hin' gd hg
            have hlt : gd.1 < ops.size := by omega
            have hog := Array.getElem?_eq_getElem hlt
            have hpg := hP _ _ hg1 hog
            have hy : yielded pre a'.tmps gd.1 = yielded ops a.tmps gd.1 := by
              simp only [yielded, hpg, hog, Option.bind_some]
              cases hd : (ops[gd.1]'hlt).dst with
              | none => rfl
              | some d' =>
                have hdD : d' ∉ [d] := fun hdD => hg2 _ hog (by rw [hd, List.mem_singleton.1 hdD])
                simp only [Option.bind_some, hbut.slot d' hdD]
            simp only [hy]
        have made : ∀ u w'', Ext w w'' → (∃ k o, (L.setIfInBounds i true)[k]? = some true ∧ k < n ∧ ops[k]? = some o ∧ o.dst = some d) → ∃ x, (a.put o.dst u).tmps[d]? = some x ∧ R x w'' := fun u w'' hw'' ⟨k, ok, hk, hkn, hok, hkd⟩ => by
          have hki : k ≠ i := fun e => by subst e; obtain rfl := Option.some.inj (ho.symm.trans hok); exact hdo hkd
          obtain ⟨x, m1, m2⟩ := hm ⟨k, ok, old k hk hki, hkn, hok, hkd⟩
          refine ⟨x, ?_, hR x _ _ hw'' m2⟩
          cases hdst : o.dst with
          | none => exact m1
          | some y =>
            have : y ≠ d := fun e => hdo (by rw [hdst, e])
            simp only [Act.put]
            rw [Array.getElem?_setIfInBounds_ne this]; exact m1
        have szP : ∀ u, d < (a.put o.dst u).tmps.size := fun u => by cases o.dst <;> simp [Act.put, hDs]
        rcases hv with ⟨hwn, hy⟩ | ⟨hwn, hvu⟩
        · unfold lateY at hy
          rw [if_neg hdo] at hy
          rw [hw] at hwn
          rw [if_pos hwn]
          refine .inl (Oper.wp_of_quiet (C := fun w'' => Ext w w'') (K := fun x => x = a.put o.dst v) (Ext.refl w) (fun a1 w1 hw1 e => ?_) ?_)
          · subst e
            exact ih _ _ (a'.put o.dst v) _ w1 (hC.trans hw1) (by simpa using hs') (by simpa using hs) hset hset2 hc' hea' hcl' (hbut.put _ _) (szP v) (made v w1 hw1) hK
          · refine ⟨v, fun w1 hw1 => ?_, rfl⟩
            have hq1 := hy w1 (hC.trans hw1)
            unfold Oper.quietAt at hq1 ⊢
            rw [← hex] at hq1
            generalize (execOp a.eval o).run P w1 = r at *
            cases r with
            | ok nx w2 =>
              cases nx <;> simp only [Oper.quietUpon] at hq1 ⊢ <;> first | exact hq1 | exact ⟨hq1.1, hq1.2.mono fun e w3 h3 => ⟨h3.1, hw1.trans h3.2⟩⟩
            | halt x w2 => simp only [Oper.quietUpon] at hq1
        · rw [hw] at hwn
          rw [if_neg (by rw [hwn]; exact Bool.false_ne_true)]
          subst hvu
          exact ih _ _ (a'.put o.dst undef) _ w hC (by simpa using hs') (by simpa using hs) hset hset2 hc' hea' hcl' (hbut.put _ _) (szP _) (made undef w (Ext.refl w)) hK

/-! ### The test -/
def lateB (ops : Array Oper) (n d : Nat) (m0 : Bool) : Bool :=
  Nat.ble n ops.size && Region.noSelect ops && Region.lexB .any (ops.toList.take n).toArray &&
  (List.range ops.size).all (fun i => match ops[i]? with
    | none => true
    | some o => if Nat.ble (i + 1) n then (o.after.all fun e => Nat.ble (e.on + 1) i) &&
        (match o.guard with
          | none => true
          | some g => Nat.ble (g.1 + 1) n && (match ops[g.1]? with
            | none => true
            | some o' => !(o'.dst == some d))) &&
        !(o.looksAt ops).contains d &&
        (if o.dst == some d then o.guard.isNone && (List.range n).all fun i' => Nat.beq i i' || (match ops[i']? with
            | some o' => !(o'.dst == some d)
            | none => true) else true)
      else (List.range n).all fun j => (m0 && Nat.beq j 0) || reach ops .any 9 i j) &&
  (List.range ops.size).all (fun k => Nat.ble (k + 1) n || (match Region.ready .any ops (upto ops.size k) with
    | [k'] => Nat.beq k' k
    | _ => false)) &&
  (Region.ready .any ops (upto ops.size ops.size)).isEmpty &&
  (List.range n).any (fun i => match ops[i]? with
    | some o => o.dst == some d
    | none => false)

theorem rep_getD {m j : Nat} (h : j < m) : (Array.replicate m false).getD j true = false := by
  simp only [Array.getD_eq_getD_getElem?, Array.getElem?_replicate]
  rw [if_pos h]; rfl
theorem rep_set {m : Nat} (h : 0 < m) : ((Array.replicate m false).setIfInBounds 0 true)[0]? = some true := by
  rw [Array.getElem?_setIfInBounds]
  simp [h]
theorem wp_late {ro : Option Nat} {l : List Oper} {n d id : Nat} {Q1 : Act → Prop} {Q : Exit → Act → World → Prop} {w0 w : World} {a : Act} {R : Value → World → Prop} (m0 : Bool) (hR : ∀ x w w', Ext w w' → R x w → R x w') (hnd : NoDef ro l) (hQ : ¬LetsOut Q) (hm : P.follows .mixedOrders = true) (hB : lateB l.toArray n d m0 = true)
    (h0 : m0 = true → (∃ d0 x ty pos after r, l = ⟨some d0, .move x, ty, pos, after, none⟩ :: r ∧ d0 ≠ d) ∧ 0 < n ∧ Region.free .any l.toArray (Array.replicate l.toArray.size false) 0 = true ∧ (Region.ready .any l.toArray (Array.replicate l.toArray.size false)).contains 0 = true ∧ ∀ c a w, ¬Q (.panic c) a w)
    (hd : d < a.tmps.size) (hw : Ext w0 w)
    (h : listY (l.take n).toArray (lateY P w0 R d) Q1 (l.take n) a)
    (last : ∀ a' a w, Ext w0 w → Q1 a' → But [d] a' a → (∃ x, a.tmps[d]? = some x ∧ R x w) → wpList P l.toArray Q (l.drop n) a w) :
    WpR ro P (.region id l.toArray true) Q a w := by
  simp only [lateB, Bool.and_eq_true] at hB
  obtain ⟨⟨⟨⟨⟨⟨b1, b0⟩, b2⟩, b3⟩, b4⟩, b5⟩, b6⟩ := hB
  have hn : n ≤ l.toArray.size := Nat.le_of_ble_eq_true b1
  have hnl : n ≤ l.length := by simpa using hn
  have at3 : ∀ i o, l.toArray[i]? = some o → _ := fun i o ho => by
    have hlt : i < l.toArray.size := by
      rcases Nat.lt_or_ge i l.toArray.size with h' | h'
      · exact h'
      · rw [Array.getElem?_eq_none h'] at ho; cases ho
    have := List.all_eq_true.1 b3 i (List.mem_range.2 hlt)
    simp only [ho] at this
    exact this
  have pre3 : ∀ i o, l.toArray[i]? = some o → i < n → _ := fun i o ho hi => by
    have := at3 i o ho
    rw [if_pos (Nat.ble_eq_true_of_le hi)] at this
    simp only [Bool.and_eq_true] at this
    exact this
  have hP : ∀ i o, i < n → l.toArray[i]? = some o → (l.take n).toArray[i]? = some o := fun i o hi ho => by
    have : l[i]? = some o := by simpa using ho
    simp [hi, this]
  have hE : ∀ i o, l.toArray[i]? = some o → i < n → ∀ e ∈ o.after, e.on < i := fun i o ho hi e he =>
    Nat.le_of_ble_eq_true (Array.all_eq_true_iff_forall_mem.1 (pre3 i o ho hi).1.1.1 e he)
  have hG : ∀ i o, l.toArray[i]? = some o → i < n → ∀ g, o.guard = some g → g.1 < n ∧ ∀ o', l.toArray[g.1]? = some o' → o'.dst ≠ some d := fun i o ho hi g hg => by
    have h2 := (pre3 i o ho hi).1.1.2
    rw [hg] at h2
    simp only [Bool.and_eq_true] at h2
    refine ⟨Nat.le_of_ble_eq_true h2.1, fun o' ho' => ?_⟩
    have h3 := h2.2
    rw [ho'] at h3
    simpa using h3
  have hD : ∀ i o, l.toArray[i]? = some o → i < n → d ∉ o.looksAt l.toArray := fun i o ho hi => by
    have h2 := (pre3 i o ho hi).1.2
    simpa using h2
  have hlate : ∀ i o, l.toArray[i]? = some o → i < n → o.dst = some d → o.guard = none ∧ ∀ i' o', l.toArray[i']? = some o' → i' < n → o'.dst = some d → i = i' := fun i o ho hi hdo => by
    have h2 := (pre3 i o ho hi).2
    rw [if_pos (by rw [hdo]; simp)] at h2
    simp only [Bool.and_eq_true] at h2
    refine ⟨by simpa using h2.1, fun i' o' ho' hi' hdo' => ?_⟩
    have h3 := List.all_eq_true.1 h2.2 i' (List.mem_range.2 hi')
    simp only [Bool.or_eq_true] at h3
    rcases h3 with h3 | h3
    · exact Nat.eq_of_beq_eq_true h3
    · rw [ho'] at h3
      simp [hdo'] at h3
  have hA : ∀ i, n ≤ i → i < l.toArray.size → ∀ j, j < n → (fun j => m0 && Nat.beq j 0) j = true ∨ reach l.toArray .any 9 i j = true := fun i hi his j hj => by
    have := at3 i _ (Array.getElem?_eq_getElem his)
    rw [if_neg (fun hb => by have := Nat.le_of_ble_eq_true hb; omega)] at this
    exact Bool.or_eq_true_iff.1 (List.all_eq_true.1 this j (List.mem_range.2 hj))
  have hr : ∀ k, n ≤ k → k < l.toArray.size → Region.ready .any l.toArray (upto l.toArray.size k) = [k] := fun k hk hks => by
    have := List.all_eq_true.1 b4 k (List.mem_range.2 hks)
    simp only [Bool.or_eq_true] at this
    rcases this with h' | h'
    · have := Nat.le_of_ble_eq_true h'; omega
    · split at h'
      · rename_i k' he
        rw [he, Nat.eq_of_beq_eq_true h']
      · cases h'
  have he : Region.ready .any l.toArray (upto l.toArray.size l.toArray.size) = [] := by simpa using b5
  have hex : ∃ i o, i < n ∧ l.toArray[i]? = some o ∧ o.dst = some d := by
    obtain ⟨i, hi, h2⟩ := List.any_eq_true.1 b6
    have hi' := List.mem_range.1 hi
    have hlt : i < l.toArray.size := by omega
    rw [Array.getElem?_eq_getElem hlt] at h2
    exact ⟨i, _, hi', Array.getElem?_eq_getElem hlt, by simpa using h2⟩
  simp only [Region.lexB, Bool.and_eq_true] at b2
  have hdl : (l.drop n).length = l.toArray.size - n := by simp
  have hlen : (l.take n).length = n := by simp; omega
  refine wpR_region_any (by simpa using hnd) hQ hm ?_
  have quiet := anyY_lex (md := .any) (same_lateY P w0 R d) b2.1 (l.take n) 0 (Array.replicate (l.take n).toArray.size false) a (by simp) (by simpa using b2.2) h
  have key := late_any (P := P) (md := .any) (ops := l.toArray) (pre := (l.take n).toArray) (n := n) (s := (l.drop n).length) (d := d) (fun j => m0 && Nat.beq j 0) (Q := Q) (Q1 := Q1) (w0 := w0) (R := R)
    hR hn hP hA hE hG (fun j o cs b ho _ => Region.noSelect_spec b0 j o cs b ho) hD (fun i o ho hi hdo => (hlate i o ho hi hdo).1) hex
    (fun a' a1 w1 hw1 q1 hb hmd => one_any hr he (l.drop n) n (Nat.le_refl _) (by rw [hdl]; omega) (fun j => by simp) a1 w1
      (last a' a1 w1 hw1 q1 hb hmd))
  have hall : ∀ k : Nat, (Array.replicate l.toArray.size false)[k]? ≠ some true := fun k hk => by
    simp only [Array.getElem?_replicate] at hk
    split at hk <;> simp at hk
  have hcnt : cnt n (Array.replicate (l.take n).toArray.size false) = (l.take n).length := by
    unfold cnt
    rw [List.countP_eq_length.2]
    · rw [hlen]; simp
    · intro j hj
      have := List.mem_range.1 hj
      have h2 : j < (l.take n).toArray.size := by simp; omega
      simp only [Array.getD_eq_getD_getElem?, Array.getElem?_replicate]
      rw [if_pos h2]; rfl
  have hsame : ∀ j, j < n → (Array.replicate l.toArray.size false)[j]? = (Array.replicate (l.take n).toArray.size false)[j]? := fun j hj => by
    have h1 : j < l.length := by omega
    have h2 : j < (l.take n).length := by omega
    simp only [Array.getElem?_replicate]
    rw [if_pos (by simpa using h1), if_pos (by simpa using h2)]
  have hclosed : Closed l.toArray .any (Array.replicate l.toArray.size false) := fun (k : Nat) o hk => by
    simp only [Array.getD_eq_getD_getElem?, Array.getElem?_replicate] at hk
    split at hk <;> simp at hk
  have e : (l.take n).length + (l.drop n).length = l.toArray.size := by rw [hlen, hdl]; omega
  cases hm0 : m0 with
  | false =>
    have := key (l.take n).length (Array.replicate l.toArray.size false) (Array.replicate (l.take n).toArray.size false) a a { w with drawn := w.drawn + 1 } hw.draw (by simp; omega) (by simp)
      hsame (fun j _ hj => by simp only [Array.getElem?_replicate]; rw [if_pos hj]) hcnt (fun j _ h => by rw [hm0] at h; cases h) hclosed ⟨rfl, rfl, fun _ _ => rfl⟩ hd (fun ⟨i, o, hi, _⟩ => absurd hi (hall i)) quiet
    rwa [e] at this
  | true =>
    obtain ⟨⟨d0, x, ty, pos, after, r, hl, hd0⟩, hn0, hf, hrd, hQ⟩ := h0 hm0
    have ho0 : l.toArray[0]? = some ⟨some d0, .move x, ty, pos, after, none⟩ := by rw [hl]; rfl
    have hp0 := hP 0 _ hn0 ho0
    have hl1 : (l.take n).length = (n - 1) + 1 := by omega
    have hrun : ∀ (a : Act) (w : World), (execOp a.eval ⟨some d0, .move x, ty, pos, after, none⟩).run P w = .ok (.value (a.eval x)) w := fun a w => by simp [execOp]
    have hsz1 : 0 < l.toArray.size := by omega
    have hsz2 : 0 < (l.take n).toArray.size := by simp; omega
    have hrd' : 0 ∈ Region.ready .any (l.take n).toArray (Array.replicate (l.take n).toArray.size false) := by
      obtain ⟨_, o, ho, hall⟩ := mem_ready.1 (by simpa using hrd : 0 ∈ Region.ready .any l.toArray (Array.replicate l.toArray.size false))
      obtain rfl := Option.some.inj (ho0.symm.trans ho)
      refine mem_ready.2 ⟨rep_getD hsz2, _, hp0, fun ed hed hb => ?_⟩
      have := hE 0 _ ho0 hn0 ed hed
      omega
    rw [hl1] at quiet
    obtain ⟨v, hv, hK⟩ := (stepY_iff hp0).1 (quiet.2 0 hrd')
    have hv' : v = a.eval x := by
      rcases hv with ⟨_, hy⟩ | ⟨hwn, _⟩
      · unfold lateY at hy
        rw [if_neg (fun e => hd0 (by cases e; rfl))] at hy
        have := hy w0 (Ext.refl w0)
        unfold Oper.quietAt at this
        rw [hrun] at this
        simp only [Oper.quietUpon] at this
        exact this.2.symm
      · unfold Region.wanted at hwn; simp at hwn
    subst hv'
    have e' : l.toArray.size = (n - 1 + (l.drop n).length) + 1 := by omega
    suffices h9 : ∀ z, z = (n - 1 + (l.drop n).length) + 1 → wpAny P .any l.toArray Q z (Array.replicate l.toArray.size false) a { w with drawn := w.drawn + 1 } from h9 _ e'
    intro z hz
    subst hz
    refine wpAny_take ho0 b0 hf hrd (fun c a w hq => absurd hq (hQ c _ w)) (.inl ⟨by unfold Region.wanted; rfl, fun w => hrun a w⟩) ?_
    refine key (n - 1) _ _ _ _ { w with drawn := w.drawn + 1 } hw.draw (by rw [Array.size_setIfInBounds, Array.size_replicate, List.size_toArray]; exact hlen) (by rw [Array.size_setIfInBounds, Array.size_replicate]) (fun j hj => ?_) (fun j hj hjs => ?_) ?_ (fun j hj hea => ?_) (fun k o hk ho ed hed hb => ?_) ⟨rfl, rfl, fun _ _ => rfl⟩ (by show d < (a.tmps.setIfInBounds d0 _).size; rw [Array.size_setIfInBounds]; exact hd) (fun ⟨i, o, hi, hin, ho, hdo⟩ => ?_) hK
    · by_cases ej : 0 = j
      · subst ej; rw [rep_set hsz1, rep_set hsz2]
      · rw [Array.getElem?_setIfInBounds_ne ej, Array.getElem?_setIfInBounds_ne ej]; exact hsame j hj
    · rw [Array.getElem?_setIfInBounds_ne (by omega)]
      simp only [Array.getElem?_replicate]; rw [if_pos hjs]
    · have := cnt_set n (Array.replicate (l.take n).toArray.size false) 0 hn0 (rep_getD hsz2)
      omega
    · rw [hm0, Bool.true_and] at hea
      obtain rfl := Nat.eq_of_beq_eq_true hea
      exact rep_set hsz1
    · by_cases ek : 0 = k
      · subst ek
        have := hE 0 _ ho hn0 ed hed
        omega
      · rw [getD_set_ne false ek] at hk
        exact absurd (hclosed k o hk ho ed hed hb) (by
          intro _
          simp only [Array.getD_eq_getD_getElem?, Array.getElem?_replicate] at hk
          split at hk <;> simp at hk)
    · by_cases ei : 0 = i
      · subst ei
        obtain rfl := Option.some.inj (ho0.symm.trans ho)
        exact absurd (by cases hdo; rfl) hd0
      · rw [Array.getElem?_setIfInBounds_ne ei] at hi
        exact absurd hi (hall i)
end

section
variable {P : Program} {N : Fr} {m : Env} {w : World}
theorem listY_append {ops : Array Oper} {Y : Oper → Act → Value → Prop} {Q : Act → Prop} : ∀ (l1 l2 : List Oper) (a : Act), listY ops Y (fun a => listY ops Y Q l2 a) l1 a → listY ops Y Q (l1 ++ l2) a
  | [], _, _, h => h
  | o :: r, l2, a, h => by
    rw [List.cons_append]
    unfold listY at h ⊢
    split
    · rename_i hw
      rw [if_pos hw] at h
      obtain ⟨v, h1, h2⟩ := h
      exact ⟨v, h1, listY_append r l2 _ h2⟩
    · rename_i hw
      rw [if_neg hw] at h
      exact listY_append r l2 _ h
theorem listY_late {ops : Array Oper} {Q : Act → Prop} {w0 : World} {R : Value → World → Prop} {d : Nat} : ∀ (l : List Oper) (a : Act), (∀ o ∈ l, o.dst ≠ some d) → listY ops (yW P w0) Q l a → listY ops (lateY P w0 R d) Q l a
  | [], _, _, h => h
  | o :: r, a, hd, h => by
    have hr := fun o' ho' => hd o' (List.mem_cons_of_mem _ ho')
    unfold listY at h ⊢
    split
    · rename_i hw
      rw [if_pos hw] at h
      obtain ⟨v, h1, h2⟩ := h
      refine ⟨v, ?_, listY_late r _ hr h2⟩
      unfold lateY
      rw [if_neg (hd o (List.mem_cons_self ..))]; exact h1
    · rename_i hw
      rw [if_neg hw] at h
      exact listY_late r _ hr h
theorem run_lit {dst : Option Tmp} {t e : TypeId} {k : Nat} {ps : Array (Nat × Operand)} {pvs : List (Nat × Value)} {out zs : List Value} {z : Value} {n0 b0 : Nat} {ty : TypeId} {pos : String} {after : Array Edge} {g : Option (Nat × Bool)} [ht : TSlice P t e] [hs : TSize P e n0 b0] [hz : TZero P e z zs]
    {a : Act} (ha : Agree N m a) (hx : evp m ps.toList = some pvs) (hp : TParts n0 0 pvs out) (hn : (Nat.ble 1 (k * n0) && Nat.ble (k * n0) 16777216 && Nat.beq pvs.length k) = true) (w' : World) :
    (execOp a.eval ⟨dst, .buildSlice t k ps, ty, pos, after, g⟩).run P w' = .ok (.value (.slice (some ⟨w'.heap.size, 0, none⟩) k k)) (w'.alloc (.cells out.toArray e)) := by
  simp only [Bool.and_eq_true] at hn
  have n1 := Nat.le_of_ble_eq_true hn.1.1
  have n2 := Nat.le_of_ble_eq_true hn.1.2
  have n3 := Nat.eq_of_beq_eq_true hn.2
  obtain ⟨inf, hi, hsz⟩ := Option.map_eq_some_iff.1 hs.h
  simp only [Prod.mk.injEq] at hsz
  obtain ⟨inf', hi', hz'⟩ := Option.bind_eq_some_iff.1 hz.h
  obtain rfl := Option.some.inj (hi.symm.trans hi')
  have hfill : Instr.fill (fun i => some (i * inf.size, inf.size)) ((Array.range (k * inf.size)).map (z.cells[· % z.cells.size]!)) pvs = some out.toArray := by
    rw [hsz.1]
    have := hp.fill [] ((Array.range (k * n0)).map (z.cells[· % z.cells.size]!)).toList (by simp) (by simp [n3])
    rw [List.nil_append, List.nil_append, Array.toArray_toList] at this
    exact this
  have e1 : ps.map (fun p => (p.1, a.eval p.2)) = pvs.toArray := by rw [← ha.evp hx, ← Array.toList_map]
  have := run_buildSlice (P := P) w' t e k pvs.toArray out.toArray inf z ht.h hi hz' (by rw [hsz.1]; omega) (by rw [hsz.1]; omega) hfill
  simp only [execOp, e1]
  simp [this]
/-- A region that draws its order, with the literal of a slice at place i0 among its first n operations. -/
theorem V_lit0 (m0 : Bool) (n i0 : Nat) (out : List Value) {Q : Exit → Env → World → Prop} {id : Nat} {l : List Oper} {d : Nat} {t e : TypeId} {k : Nat} {ps : Array (Nat × Operand)} {ty : TypeId} {pos : String} {after : Array Edge} {zs : List Value} {z : Value} {n0 b0 : Nat} [ht : TSlice P t e] [hs : TSize P e n0 b0] [hz : TZero P e z zs]
    (hm : P.follows .mixedOrders = true) (ho : l.take n = l.take i0 ++ ⟨some d, .buildSlice t k ps, ty, pos, after, none⟩ :: (l.take n).drop (i0 + 1)) (hB : lateB l.toArray n d m0 = true)
    (h0 : m0 = true → (∃ d0 x ty pos after r, l = ⟨some d0, .move x, ty, pos, after, none⟩ :: r ∧ d0 ≠ d) ∧ 0 < n ∧ Region.free .any l.toArray (Array.replicate l.toArray.size false) 0 = true ∧ (Region.ready .any l.toArray (Array.replicate l.toArray.size false)).contains 0 = true) (hd : Nat.ble (d + 1) N.n = true)
    (hne : ((l.take i0).all (fun o => !(o.dst == some d)) && ((l.take n).drop (i0 + 1)).all (fun o => !(o.dst == some d))) = true)
    (h : Ops P N (l.take n).toArray true (fun m1 _ => ∃ pvs, evp m1 ps.toList = some pvs ∧ TParts n0 0 pvs out ∧ (Nat.ble 1 (k * n0) && Nat.ble (k * n0) 16777216 && Nat.beq pvs.length k) = true ∧
      Ops P N (l.take n).toArray true (fun m2 _ => ∀ w2 b, New w w2 b e out → Ops P N l.toArray false (fun m w => Q .normal m w) (l.drop n) ((d, .slice (some ⟨b, 0, none⟩) k k) :: m2) w2) ((l.take n).drop (i0 + 1)) ((d, undef) :: m1) w) (l.take i0) m w)
    (hnd : NoDef N.ro l := by first | exact .inl rfl | exact .inr (by kernel_rfl)) :
    V P N (.region id l.toArray true) Q m w := by
  have hlt : d < N.n := Nat.le_of_ble_eq_true hd
  simp only [Bool.and_eq_true] at hne
  have hne1 : ∀ o ∈ l.take i0, o.dst ≠ some d := fun o ho e => by
    have := List.all_eq_true.1 hne.1 o ho
    rw [e] at this; simp at this
  have hne2 : ∀ o ∈ (l.take n).drop (i0 + 1), o.dst ≠ some d := fun o ho e => by
    have := List.all_eq_true.1 hne.2 o ho
    rw [e] at this; simp at this
  refine ⟨fun a w' ha hw => wpR_mono (Q := fun e a w => e = .normal ∧ lift N Q .normal a w) (fun e a w ⟨h1, h2⟩ => by rw [h1]; exact h2) ?_⟩
  refine wp_late m0 (w0 := w) (R := fun x w2 => ∃ b, x = .slice (some ⟨b, 0, none⟩) k k ∧ w.heap.size ≤ b ∧ Blk w2 b e out) (fun x w1 w2 he ⟨b, h1, h2, h3⟩ => ⟨b, h1, h2, h3.ext he⟩) hnd noLet hm hB (fun h => by
      obtain ⟨h1, h2, h3, h4⟩ := h0 h
      exact ⟨h1, h2, h3, h4, fun c a w hq => nomatch hq.1⟩) (by rw [ha.size]; exact hlt) hw
    (Q1 := fun a' => ∃ m2, (∀ w2 b, New w w2 b e out → Ops P N l.toArray false (fun m w => Q .normal m w) (l.drop n) ((d, .slice (some ⟨b, 0, none⟩) k k) :: m2) w2) ∧ Agree N m2 a') ?_ ?_
  · generalize hL : (l.take n).toArray = A at h ⊢
    rw [ho]
    refine listY_append _ _ _ (listY_mono (fun a1 ⟨m1, ⟨pvs, p1, p2, p3, h2⟩, ag1⟩ => ?_) _ _ (listY_late _ _ hne1 (h.out a ha)))
    unfold listY
    rw [if_pos (by unfold Region.wanted; rfl)]
    refine ⟨undef, ?_, ?_⟩
    · unfold lateY
      rw [if_pos rfl]
      refine ⟨rfl, fun w1 hw1 => ⟨_, _, run_lit ag1 p1 p2 p3 w1, (Ext.refl _).alloc _, w1.heap.size, rfl, hw1.size, alloc_heap _ _⟩⟩
    · exact listY_late _ _ hne2 (h2.out _ (ag1.put hlt undef))
  · rintro a' a1 w1 hw1 ⟨m2, h2, ag⟩ hb ⟨x, hx, b, rfl, hbl, hB1⟩
    have ag1 : Agree N ((d, .slice (some ⟨b, 0, none⟩) k k) :: m2) a1 := by
      refine ⟨by rw [hb.defers]; exact ag.defers, by rw [hb.size]; exact ag.size, fun i v hi => ?_⟩
      by_cases e : d = i
      · subst e
        rw [look_same] at hi; cases hi; exact hx
      · rw [look_other _ _ e] at hi
        rw [hb.slot i (fun h => e (List.mem_singleton.1 h).symm)]
        exact ag.slot i v hi
    have h5 := (h2 w1 b ⟨hw1, hbl, hB1⟩).out a1 w1 ag1 (Ext.refl _)
    have mono : ∀ (l' : List Oper) (a : Act) (w0 : World), wpList P l.toArray (fun e a' w'' => e = .normal ∧ ∃ m' w1, Q .normal m' w1 ∧ Agree N m' a' ∧ Ext w1 w'') l' a w0 → wpList P l.toArray (fun e a w => e = .normal ∧ lift N Q .normal a w) l' a w0 := by
      intro l'
      induction l' with
      | nil => exact fun a w0 ⟨_, m', w1, q, ag, ex⟩ => ⟨rfl, m', w1, q, ag, ex⟩
      | cons o r ih =>
        intro a w0 h6
        unfold wpList at h6 ⊢
        split
        · rename_i hwn
          rw [if_pos hwn] at h6
          rcases h6 with h6 | h6
          · exact .inl (wp_normal (fun a1 w1 hh => ih a1 w1 hh) h6)
          · obtain ⟨_, _, _, h7, _⟩ := h6; cases h7
        · rename_i hwn
          rw [if_neg hwn] at h6
          exact ih _ _ h6
    exact mono _ _ _ h5
theorem V_lit (n i0 : Nat) (out : List Value) {Q : Exit → Env → World → Prop} {id : Nat} {l : List Oper} {d : Nat} {t e : TypeId} {k : Nat} {ps : Array (Nat × Operand)} {ty : TypeId} {pos : String} {after : Array Edge} {zs : List Value} {z : Value} {n0 b0 : Nat} [ht : TSlice P t e] [hs : TSize P e n0 b0] [hz : TZero P e z zs]
    (hm : P.follows .mixedOrders = true) (ho : l.take n = l.take i0 ++ ⟨some d, .buildSlice t k ps, ty, pos, after, none⟩ :: (l.take n).drop (i0 + 1)) (hB : lateB l.toArray n d false = true) (hd : Nat.ble (d + 1) N.n = true)
    (hne : ((l.take i0).all (fun o => !(o.dst == some d)) && ((l.take n).drop (i0 + 1)).all (fun o => !(o.dst == some d))) = true)
    (h : Ops P N (l.take n).toArray true (fun m1 _ => ∃ pvs, evp m1 ps.toList = some pvs ∧ TParts n0 0 pvs out ∧ (Nat.ble 1 (k * n0) && Nat.ble (k * n0) 16777216 && Nat.beq pvs.length k) = true ∧
      Ops P N (l.take n).toArray true (fun m2 _ => ∀ w2 b, New w w2 b e out → Ops P N l.toArray false (fun m w => Q .normal m w) (l.drop n) ((d, .slice (some ⟨b, 0, none⟩) k k) :: m2) w2) ((l.take n).drop (i0 + 1)) ((d, undef) :: m1) w) (l.take i0) m w)
    (hnd : NoDef N.ro l := by first | exact .inl rfl | exact .inr (by kernel_rfl)) :
    V P N (.region id l.toArray true) Q m w :=
  V_lit0 false n i0 out hm ho hB (fun h => nomatch h) hd hne h hnd
/-- The same, where the first operation is a plain move that some of the last do not wait for. -/
theorem V_litM (n i0 : Nat) (out : List Value) {Q : Exit → Env → World → Prop} {id : Nat} {l : List Oper} {d d0 : Nat} {x : Operand} {r : List Oper} {ty0 : TypeId} {pos0 : String} {after0 : Array Edge} {t e : TypeId} {k : Nat} {ps : Array (Nat × Operand)} {ty : TypeId} {pos : String} {after : Array Edge} {zs : List Value} {z : Value} {n0 b0 : Nat} [ht : TSlice P t e] [hs : TSize P e n0 b0] [hz : TZero P e z zs]
    (hm : P.follows .mixedOrders = true) (ho : l.take n = l.take i0 ++ ⟨some d, .buildSlice t k ps, ty, pos, after, none⟩ :: (l.take n).drop (i0 + 1)) (hB : lateB l.toArray n d true = true)
    (hl : l = ⟨some d0, .move x, ty0, pos0, after0, none⟩ :: r) (hd0 : (!(Nat.beq d0 d) && Nat.ble 1 n) = true) (hf : (Region.free .any l.toArray (Array.replicate l.toArray.size false) 0 && (Region.ready .any l.toArray (Array.replicate l.toArray.size false)).contains 0) = true) (hd : Nat.ble (d + 1) N.n = true)
    (hne : ((l.take i0).all (fun o => !(o.dst == some d)) && ((l.take n).drop (i0 + 1)).all (fun o => !(o.dst == some d))) = true)
    (h : Ops P N (l.take n).toArray true (fun m1 _ => ∃ pvs, evp m1 ps.toList = some pvs ∧ TParts n0 0 pvs out ∧ (Nat.ble 1 (k * n0) && Nat.ble (k * n0) 16777216 && Nat.beq pvs.length k) = true ∧
      Ops P N (l.take n).toArray true (fun m2 _ => ∀ w2 b, New w w2 b e out → Ops P N l.toArray false (fun m w => Q .normal m w) (l.drop n) ((d, .slice (some ⟨b, 0, none⟩) k k) :: m2) w2) ((l.take n).drop (i0 + 1)) ((d, undef) :: m1) w) (l.take i0) m w)
    (hnd : NoDef N.ro l := by first | exact .inl rfl | exact .inr (by kernel_rfl)) :
    V P N (.region id l.toArray true) Q m w := by
  simp only [Bool.and_eq_true] at hd0 hf
  refine V_lit0 true n i0 out hm ho hB (fun _ => ⟨⟨d0, x, ty0, pos0, after0, r, hl, fun e => ?_⟩, Nat.le_of_ble_eq_true hd0.2, hf.1, hf.2⟩) hd hne h hnd
  subst e
  have := hd0.1
  rw [Nat.beq_refl] at this; cases this
end
end Go.Proofs.Ytjpnaofoeeegeaa


/-
  Layer 6 (trie): the walks of add, down, Above, Lookup.
  Conditions: addresses are below 2^32.
-/
namespace Go.Proofs.Ytjpnaofoeeegeaa
open Go.RowKit

instance : OneAll [] := ⟨rfl⟩
instance (k : IntKind) (n : Int) (l : List Value) [h : OneAll l] : OneAll (.int k n :: l) := ⟨by rw [List.all_cons, h.h]; rfl⟩
instance (b : Bool) (l : List Value) [h : OneAll l] : OneAll (.bool b :: l) := ⟨by rw [List.all_cons, h.h]; rfl⟩
instance (a : Option Addr) (l : List Value) [h : OneAll l] : OneAll (.pointer a :: l) := ⟨by rw [List.all_cons, h.h]; rfl⟩
instance (a : Option Addr) (n c : Nat) (l : List Value) [h : OneAll l] : OneAll (.slice a n c :: l) := ⟨by rw [List.all_cons, h.h]; rfl⟩
/-- An entry, as Go's struct has it. -/
structure En where
  p : Pf
  v : Int
deriving DecidableEq
def En.cells (e : En) : List Value := [.int .u32 e.p.a, .int .i64 e.p.n, .int .i64 e.v]
abbrev En.val (e : En) : Value := .agg #[.int .u32 e.p.a, .int .i64 e.p.n, .int .i64 e.v]
/-- What add appends. -/
def adds (p : Pf) (o : Option Int) : List En := match o with
  | some v => [⟨p, v⟩]
  | none => []
/-- The blocks of a list under construction. -/
def LFoot (bl : Nat) (v : Value) (c : Nat) : Prop := c = bl ∨ v.ownBlock = some c
/-- A list under construction. -/
structure Acc (w : World) (base bl : Nat) (v : Value) (M : List En) : Prop where
  blk : Blk w bl 140 [v]
  own : Own w base 42 3 v (M.map En.cells)
  ne : v.ownBlock ≠ some bl
def AccR (base bl : Nat) (v : Value) (M : List En) (w : World) (r : Value) (w' : World) : Prop := r = .tuple #[] ∧ ∃ v', Acc w' base bl v' M ∧ ∀ c, v'.ownBlock = some c → v.ownBlock = some c ∨ w.heap.size ≤ c
theorem add_v {base bl nb : Nat} {v : Value} {M : List En} (p : Pf) (o : Option Int) (w : World) (h : Acc w base bl v M) (h1 : w.cell? ⟨nb, 2, none⟩ = some (.bool o.isSome)) (h2 : w.cell? ⟨nb, 3, none⟩ = some (.int .i64 (o.getD 0)))
    (hbase : base ≤ w.heap.size) (hM : (M.length + 1) * 24 ≤ 140737488355328) :
    Calls Try.prog 82 #[.pointer (some ⟨bl, 0, none⟩), p.val, .pointer (some ⟨nb, 0, none⟩)] w (Does (LFoot bl v) (AccR base bl v (M ++ adds p o) w) w) := by
  obtain ⟨hB, hO, hne⟩ := h
  refine V_enter (vs := [_, _, _]) Try.func82 rfl Try.ntmps82 (Nat.le_of_ble_eq_true rfl) ?_
  repeat (first | refine Vx ?_ | (apply Ops_q; (case hon => exact Va); (case hd => rfl); (case hq => exact YlA)) | refine Vr ?_ | refine Vt ?_ | refine Vf ?_ | refine Vm ?_ | refine Ve ?_ | refine Vo ?_ | refine Vz ?_ | refine Vn ?_)
  (refine Ops_box (by exact Va) rfl rfl rfl ?_; intro w1 b1 n_b1; have k_b1 := n_b1.blk)
  have g1 := hB.ext n_b1.ext
  have o1 := hO.ext n_b1.ext
  have c1 := n_b1.ext.cell h1
  have c2 := n_b1.ext.cell h2
  repeat (first | refine Vx ?_ | (apply Ops_q; (case hon => exact Va); (case hd => rfl); (case hq => exact YlA)) | refine Vr ?_ | refine Vt ?_ | refine Vf ?_ | refine Vm ?_ | refine Ve ?_ | refine Vo ?_ | refine Vz ?_ | refine Vn ?_)
  cases o with
  | none =>
    repeat (first | refine Vx ?_ | (apply Ops_q; (case hon => exact Va); (case hd => rfl); (case hq => exact YlA)) | refine Vr ?_ | refine Vt ?_ | refine Vf ?_ | refine Vm ?_ | refine Ve ?_ | refine Vo ?_ | refine Vz ?_ | refine Vn ?_)
    refine ret0 (by first | exact .inl rfl | exact .inr rfl) rfl ?_
    exact Does_mk (fun w' he => ⟨rfl, v, ⟨g1.ext he, by rw [adds, List.append_nil]; exact o1.ext he, hne⟩, fun c hc => .inl hc⟩) (.of_ext n_b1.ext)
  | some x =>
    repeat (first | refine Vx ?_ | (apply Ops_q; (case hon => exact Va); (case hd => rfl); (case hq => exact YlA)) | refine Vr ?_ | refine Vt ?_ | refine Vf ?_ | refine Vm ?_ | refine Ve ?_ | refine Vo ?_ | refine Vz ?_ | refine Vn ?_)
    refine V_litM 12 11 [.int .u32 p.a, .int .i64 p.n, .int .i64 x] (by kernel_rfl) rfl (by kernel_rfl) rfl rfl (by kernel_rfl) rfl rfl ?_
    repeat (first | refine Vx ?_ | (apply Ops_q; (case hon => exact Va); (case hd => rfl); (case hq => exact YlA)) | refine Vr ?_ | refine Vt ?_ | refine Vf ?_ | refine Vm ?_ | refine Ve ?_ | refine Vo ?_ | refine Vz ?_ | refine Vn ?_)
    refine ⟨_, rfl, inferInstance, rfl, ?_⟩
    repeat (first | refine Vx ?_ | (apply Ops_q; (case hon => exact Va); (case hd => rfl); (case hq => exact YlA)) | refine Vr ?_ | refine Vt ?_ | refine Vf ?_ | refine Vm ?_ | refine Ve ?_ | refine Vo ?_ | refine Vz ?_ | refine Vn ?_)
    intro w2 b2 n_b2
    have k_b2 := n_b2.blk
    have o2 := o1.ext n_b2.ext
    have g2 := g1.ext n_b2.ext
    have e2 := n_b1.ext.trans n_b2.ext
    have ne2 : bl ≠ b2 := fun e => by have := g1.lt; have := n_b2.ge; omega
    (refine Ops_append1 (by exact Va) rfl rfl rfl rfl o2 k_b2.cells inferInstance inferInstance (by first | omega | (rw [List.length_map]; omega)) rfl (Nat.le_trans hbase e2.size) ?_; intro v' w3 o_v' g_w3 d_v')
    have g3 := grow_blk g_w3 g2 (fun e => hne e.symm)
    have hnv : v'.ownBlock ≠ some bl := dis_app d_v' hne g2.lt
    obtain ⟨ao', c', rfl, _⟩ := o_v'.slice
    repeat (first | refine Vx ?_ | (apply Ops_q; (case hon => exact Va); (case hd => rfl); (case hq => exact YlA)) | refine Vr ?_ | refine Vt ?_ | refine Vf ?_ | refine Vm ?_ | refine Ve ?_ | refine Vo ?_ | refine Vz ?_ | refine Vn ?_)
    (refine Ops_store (by exact Va) rfl rfl g3 (by rfl) ?_; intro w4 u_w4)
    have o4 := o_v'.upd u_w4 hnv
    have m4 : Mod (LFoot bl v) w w4 := ((Mod.of_ext e2).grow g_w3 (fun b hb => .inl (.inr hb))).upd u_w4 (.inl (.inl rfl))
    repeat (first | refine Vx ?_ | (apply Ops_q; (case hon => exact Va); (case hd => rfl); (case hq => exact YlA)) | refine Vr ?_ | refine Vt ?_ | refine Vf ?_ | refine Vm ?_ | refine Ve ?_ | refine Vo ?_ | refine Vz ?_ | refine Vn ?_)
    refine ret0 (by first | exact .inl rfl | exact .inr rfl) rfl ?_
    refine Does_mk (fun w' he => ⟨rfl, _, ⟨u_w4.blk.ext he, ?_, hnv⟩, fun c hc => ?_⟩) m4
    · have := o4.ext he
      rw [List.map_append]; exact this
    · rcases d_v' with h5 | ⟨b, h5, h6⟩
      · exact .inl (by rw [← h5]; exact hc)
      · rw [h5] at hc; cases hc
        exact .inr (Nat.le_trans e2.size h6)

theorem TrieM.mod {w w1 : World} {base b0 : Nat} {N : Nat → Nat → Option Nat} {E : Nat → Nat → Option Int} {n : Int} {S : Nat → Prop} (h : TrieM w base b0 N E n) (hm : Mod S w w1) (hs : ∀ c, Foot N c → ¬S c) : TrieM w1 base b0 N E n :=
  { h with node := fun x k b hb => hm.blk (h.node x k b hb) (hs b ⟨x, k, hb⟩) }
/-- The entries along a path. -/
def pre (E : Nat → Nat → Option Int) (a k : Nat) : List En := (List.range k).flatMap fun j => adds ⟨top a j, j⟩ (E (top a j) j)
theorem pre_succ (E : Nat → Nat → Option Int) (a k : Nat) : pre E a (k + 1) = pre E a k ++ adds ⟨top a k, k⟩ (E (top a k) k) := by
  unfold pre
  rw [List.range_succ, List.flatMap_append]
  simp
theorem adds_len (p : Pf) (o : Option Int) : (adds p o).length ≤ 1 := by unfold adds; split <;> simp
theorem pre_len (E : Nat → Nat → Option Int) (a : Nat) : ∀ k, (pre E a k).length ≤ k
  | 0 => by simp [pre]
  | k + 1 => by
    have := pre_len E a k
    have h2 := adds_len ⟨top a k, k⟩ (E (top a k) k)
    rw [pre_succ, List.length_append]
    omega
theorem pre_none {E : Nat → Nat → Option Int} {a k : Nat} (m : Nat) (h : ∀ j, k ≤ j → j < m → E (top a j) j = none) (hk : k ≤ m) : pre E a m = pre E a k := by
  induction m with
  | zero => obtain rfl : k = 0 := by omega
            rfl
  | succ m ih =>
    rcases Nat.lt_or_ge k (m + 1) with h1 | h1
    · rw [pre_succ, ih (fun j h2 h3 => h j h2 (by omega)) (by omega), h m (by omega) (by omega), adds, List.append_nil]
    · obtain rfl : k = m + 1 := by omega
      rfl
theorem room {m p k n : Nat} (hp : p ≤ k) (hk : k ≤ n) (hn : n ≤ 32) (hM : (m + 33) * 24 ≤ 140737488355328) : (m + p + 1) * 24 ≤ 140737488355328 :=
  Nat.le_trans (Nat.mul_le_mul_right 24 (by omega : m + p + 1 ≤ m + 33)) hM
def addF (bl : Nat) : Value := .func (.func 82) #[.pointer (some ⟨bl, 0, none⟩)] #[]
set_option maxHeartbeats 1000000 in
theorem down_v {base b0 base2 bl : Nat} {N : Nat → Nat → Option Nat} {E : Nat → Nat → Option Int} {cnt : Int} {v : Value} {M : List En} (a n : Nat) (w : World) (h : TrieM w base b0 N E cnt) (hA : Acc w base2 bl v M) (ha : a < 4294967296) (hn : n ≤ 32)
    (hd1 : ¬Foot N bl) (hd2 : ∀ c, v.ownBlock = some c → ¬Foot N c) (hbase : base2 ≤ w.heap.size) (hM : (M.length + 33) * 24 ≤ 140737488355328) :
    Calls Try.prog 81 #[.pointer (some ⟨b0, 0, none⟩), .int .u32 a, .int .i64 n, addF bl] w (Does (LFoot bl v) (AccR base2 bl v (M ++ pre E a (n + 1)) w) w) := by
  have hst : N (top a 0) 0 = some b0 := by rw [top_zero _ ha, h.root]
  have hdis : ∀ c, Foot N c → ¬LFoot bl v c := fun c hc hl => hl.elim (fun e => hd1 (e ▸ hc)) (fun e => hd2 c e hc)
  unfold addF
  refine V_enter (vs := [_, _, _, _]) Try.func81 rfl Try.ntmps81 (Nat.le_of_ble_eq_true rfl) ?_
  repeat (first | refine Vx ?_ | (apply Ops_q; (case hon => exact Va); (case hd => rfl); (case hq => exact YlA)) | refine Vr ?_ | refine Vt ?_ | refine Vf ?_ | refine Vm ?_ | refine Ve ?_ | refine Vo ?_ | refine Vz ?_ | refine Vn ?_)
  refine V_loop (fun s : Nat × Value => [(9, .int .i64 s.1), (8, ptrV (N (top a s.1) s.1)), (1, .int .u32 a), (2, .int .i64 n), (3, .func (.func 82) #[.pointer (some ⟨bl, 0, none⟩)] #[])])
    (fun s w' => Mod (LFoot bl v) w w' ∧ s.1 ≤ n ∧ Acc w' base2 bl s.2 (M ++ pre E a s.1) ∧ ∀ c, s.2.ownBlock = some c → v.ownBlock = some c ∨ w.heap.size ≤ c) (fun s => n - s.1) (0, v)
    ⟨rfl, by rw [hst]; exact rfl, rfl, rfl, rfl, trivial⟩ ⟨.of_ext (Ext.refl _), Nat.zero_le _, by simpa [pre] using hA, fun c hc => .inl hc⟩ ?_
  rintro ⟨k, v'⟩ w1 ⟨m1, hk, hA, hv⟩
  dsimp only at hk hA hv ⊢
  have h1 := h.mod m1 hdis
  cases hnk : N (top a k) k with
  | none =>
    rw [ptrV_none]
    repeat (first | refine Vx ?_ | (apply Ops_q; (case hon => exact Va); (case hd => rfl); (case hq => exact YlA)) | refine Vr ?_ | refine Vt ?_ | refine Vf ?_ | refine Vm ?_ | refine Ve ?_ | refine Vo ?_ | refine Vz ?_ | refine Vn ?_)
    refine ret0 (by first | exact .inl rfl | exact .inr rfl) rfl ?_
    refine Does_mk (fun w' he => ⟨rfl, v', ?_, hv⟩) m1
    have : pre E a (n + 1) = pre E a k := pre_none (n + 1) (fun j h2 h3 => h.at_none (h.none_below a hnk h2 (by omega))) (by omega)
    rw [this]
    exact ⟨hA.blk.ext he, hA.own.ext he, hA.ne⟩
  | some b =>
    rw [ptrV_some]
    have hkc := h1.kid_cell hnk (bit_lt a k)
    have hb2 := bit_lt a k
    repeat (first | refine Vx ?_ | (apply Ops_q; (case hon => exact Va); (case hd => rfl); (case hq => exact YlA)) | refine Vr ?_ | refine Vt ?_ | refine Vf ?_ | refine Vm ?_ | refine Ve ?_ | refine Vo ?_ | refine Vz ?_ | refine Vn ?_)
    (apply Ops_q; (case hon => (exact Va)); (case hd => rfl); (case hq => exact Yl_call rfl (fun w_ e_ => make_v a k w_ ha (by omega))))
    repeat (first | refine Vx ?_ | (apply Ops_q; (case hon => exact Va); (case hd => rfl); (case hq => exact YlA)) | refine Vr ?_ | refine Vt ?_ | refine Vf ?_ | refine Vm ?_ | refine Ve ?_ | refine Vo ?_ | refine Vz ?_ | refine Vn ?_)
    (refine Ops_alloc (by exact Va) rfl ?_; intro w2 b2 n_b2; have k_b2 := n_b2.blk)
    have g2 : w.heap.size ≤ b2 := Nat.le_trans m1.size n_b2.ge
    repeat (first | refine Vx ?_ | (apply Ops_q; (case hon => exact Va); (case hd => rfl); (case hq => exact YlA)) | refine Vr ?_ | refine Vt ?_ | refine Vf ?_ | refine Vm ?_ | refine Ve ?_ | refine Vo ?_ | refine Vz ?_ | refine Vn ?_)
    (refine Ops_store (by exact Va) rfl rfl (by assumption) (by first | rfl | exact OneAll.h) ?_; intro w3 u_w3; have k_b2 := u_w3.blk)
    have m3 : Mod (LFoot bl v) w w3 := (m1.ext n_b2.ext).upd u_w3 (.inr g2)
    have h3 := h.mod m3 hdis
    have hpl := pre_len E a k
    have hbl2 : bl ≠ b2 := fun e => by have := hA.blk.lt; have := n_b2.ge; omega
    have hvb : v'.ownBlock ≠ some b2 := fun e => by have := hA.own.lt e; have := n_b2.ge; omega
    have hA3 : Acc w3 base2 bl v' (M ++ pre E a k) := ⟨u_w3.keep (hA.blk.ext n_b2.ext) hbl2, (hA.own.ext n_b2.ext).upd u_w3 hvb, hA.ne⟩
    have hlen : (M ++ pre E a k).length = M.length + (pre E a k).length := List.length_append ..
    have hadd := fun w_ (e_ : Ext w3 w_) => add_v (base := base2) (bl := bl) (nb := b) (v := v') (M := M ++ pre E a k) ⟨top a k, k⟩ (E (top a k) k) w_ ⟨hA3.blk.ext e_, hA3.own.ext e_, hA3.ne⟩ (e_.cell (h3.has_cell hnk)) (e_.cell (h3.val_cell hnk)) (Nat.le_trans hbase (Nat.le_trans m3.size e_.size)) (hlen ▸ room hpl hk hn hM)
    repeat (first | refine Vx ?_ | (apply Ops_q; (case hon => exact Va); (case hd => rfl); (case hq => exact YlA)) | refine Vr ?_ | refine Vt ?_ | refine Vf ?_ | refine Vm ?_ | refine Ve ?_ | refine Vo ?_ | refine Vz ?_ | refine Vn ?_)
    refine Ops_callvM (S := LFoot bl v') (R := fun w_ => AccR base2 bl v' ((M ++ pre E a k) ++ adds ⟨top a k, k⟩ (E (top a k) k)) w_) (first := [.pointer (some ⟨bl, 0, none⟩)]) (cap := []) (by exact Va) rfl rfl rfl hadd ?_
    intro r w4 w0_ e0 m4 hR
    obtain ⟨rfl, v2, hA4, hv2⟩ := hR
    have m4' : Mod (LFoot bl v) w w4 := (m3.ext e0).trans' m4 (fun c hc => hc.elim (fun e => .inl (.inl e)) (fun e => (hv c e).elim (fun e2 => .inl (.inr e2)) (fun e2 => .inr e2)))
    have hv4 : ∀ c, v2.ownBlock = some c → v.ownBlock = some c ∨ w.heap.size ≤ c := fun c hc => (hv2 c hc).elim (fun e => hv c e) (fun e => .inr (Nat.le_trans (Nat.le_trans m3.size e0.size) e))
    rw [List.append_assoc, ← pre_succ] at hA4
    have h4 := h.mod m4' hdis
    repeat (first | refine Vx ?_ | (apply Ops_q; (case hon => exact Va); (case hd => rfl); (case hq => exact YlA)) | refine Vr ?_ | refine Vt ?_ | refine Vf ?_ | refine Vm ?_ | refine Ve ?_ | refine Vo ?_ | refine Vz ?_ | refine Vn ?_)
    refine V_cond rfl (fun hg => ?_) (fun hg => ?_)
    · have : k = n := by have := of_decide_eq_true hg; omega
      subst this
      repeat (first | refine Vx ?_ | (apply Ops_q; (case hon => exact Va); (case hd => rfl); (case hq => exact YlA)) | refine Vr ?_ | refine Vt ?_ | refine Vf ?_ | refine Vm ?_ | refine Ve ?_ | refine Vo ?_ | refine Vz ?_ | refine Vn ?_)
      refine ret0 (by first | exact .inl rfl | exact .inr rfl) rfl ?_
      exact Does_mk (fun w' he => ⟨rfl, v2, ⟨hA4.blk.ext he, hA4.own.ext he, hA4.ne⟩, hv4⟩) m4'
    · have hkn : k < n := by have := of_decide_eq_false hg; omega
      have hkc4 := h4.kid_cell hnk (bit_lt a k)
      rw [h4.kid_eq a (by omega)] at hkc4
      repeat (first | refine Vx ?_ | (apply Ops_q; (case hon => exact Va); (case hd => rfl); (case hq => exact YlA)) | refine Vr ?_ | refine Vt ?_ | refine Vf ?_ | refine Vm ?_ | refine Ve ?_ | refine Vo ?_ | refine Vz ?_ | refine Vn ?_)
      (apply Ops_q; (case hon => (exact Va)); (case hd => rfl); (case hq => exact Yl_call rfl (fun w_ e_ => bit_v a k w_ ha)))
      repeat (first | refine Vx ?_ | (apply Ops_q; (case hon => exact Va); (case hd => rfl); (case hq => exact YlA)) | refine Vr ?_ | refine Vt ?_ | refine Vf ?_ | refine Vm ?_ | refine Ve ?_ | refine Vo ?_ | refine Vz ?_ | refine Vn ?_)
      (apply Ops_q; (case hon => (exact Va)); (case hd => rfl); (case hq => exact Yl_indexA (j := (bitAt a k)) rfl rfl (by first | exact Nat.le_of_ble_eq_true rfl | omega)))
      repeat (first | refine Vx ?_ | (apply Ops_q; (case hon => exact Va); (case hd => rfl); (case hq => exact YlA)) | refine Vr ?_ | refine Vt ?_ | refine Vf ?_ | refine Vm ?_ | refine Ve ?_ | refine Vo ?_ | refine Vz ?_ | refine Vn ?_)
      exact ⟨(k + 1, v2), (by repeat (first | exact trivial | refine ⟨rfl, ?_⟩)), ⟨m4', hkn, hA4, hv4⟩, by simp only; omega⟩
def aboveL (E : Nat → Nat → Option Int) (p : Pf) : List En := if p.valid then pre E p.a (p.n.toNat + 1) else []
theorem above_v {base b0 : Nat} {N : Nat → Nat → Option Nat} {E : Nat → Nat → Option Int} {cnt : Int} (p : Pf) (w : World) (h : TrieM w base b0 N E cnt) (ha : p.a < 4294967296) :
    Calls Try.prog 42 #[.pointer (some ⟨b0, 0, none⟩), p.val] w (Gives (fun r w' => Own w' w.heap.size 42 3 r ((aboveL E p).map En.cells)) w) := by
  refine V_enter (vs := [_, _]) Try.func42 rfl Try.ntmps42 (Nat.le_of_ble_eq_true rfl) ?_
  repeat (first | refine Vx ?_ | (apply Ops_q; (case hon => exact Va); (case hd => rfl); (case hq => exact YlA)) | refine Vr ?_ | refine Vt ?_ | refine Vf ?_ | refine Vm ?_ | refine Ve ?_ | refine Vo ?_ | refine Vz ?_ | refine Vn ?_)
  (refine Ops_box (by exact Va) rfl rfl rfl ?_; intro w1 b1 n_b1; have k_b1 := n_b1.blk)
  repeat (first | refine Vx ?_ | (apply Ops_q; (case hon => exact Va); (case hd => rfl); (case hq => exact YlA)) | refine Vr ?_ | refine Vt ?_ | refine Vf ?_ | refine Vm ?_ | refine Ve ?_ | refine Vo ?_ | refine Vz ?_ | refine Vn ?_)
  (apply Ops_q; (case hon => (exact Va)); (case hd => rfl); (case hq => exact Yl_call rfl (fun w_ e_ => valid_v p w_ ha)))
  repeat (first | refine Vx ?_ | (apply Ops_q; (case hon => exact Va); (case hd => rfl); (case hq => exact YlA)) | refine Vr ?_ | refine Vt ?_ | refine Vf ?_ | refine Vm ?_ | refine Ve ?_ | refine Vo ?_ | refine Vz ?_ | refine Vn ?_)
  cases hv : p.valid with
  | false =>
    repeat (first | refine Vx ?_ | (apply Ops_q; (case hon => exact Va); (case hd => rfl); (case hq => exact YlA)) | refine Vr ?_ | refine Vt ?_ | refine Vf ?_ | refine Vm ?_ | refine Ve ?_ | refine Vo ?_ | refine Vz ?_ | refine Vn ?_)
    refine ret1 (by first | exact .inl rfl | exact .inr rfl) rfl rfl ?_
    exact Gives_mk (fun w' he => by rw [aboveL, hv]; exact Own.nil) n_b1.ext
  | true =>
    obtain ⟨v1, v2, v3⟩ := Pf.valid_iff.1 hv
    obtain ⟨len, hlen⟩ : ∃ len : Nat, p.n = len := ⟨p.n.toNat, by omega⟩
    have hAb : aboveL E p = pre E p.a (len + 1) := by rw [aboveL, if_pos hv, hlen, Int.toNat_natCast]
    rw [hlen] at k_b1
    repeat (first | refine Vx ?_ | (apply Ops_q; (case hon => exact Va); (case hd => rfl); (case hq => exact YlA)) | refine Vr ?_ | refine Vt ?_ | refine Vf ?_ | refine Vm ?_ | refine Ve ?_ | refine Vo ?_ | refine Vz ?_ | refine Vn ?_)
    (refine Ops_alloc (by exact Va) rfl ?_; intro w2 b2 n_b2; have k_b2 := n_b2.blk)
    replace k_b1 := k_b1.ext n_b2.ext
    have e2 := n_b1.ext.trans n_b2.ext
    have g2 : w.heap.size ≤ b2 := Nat.le_trans n_b1.ext.size n_b2.ge
    have h2 := h.ext e2
    repeat (first | refine Vx ?_ | (apply Ops_q; (case hon => exact Va); (case hd => rfl); (case hq => exact YlA)) | refine Vr ?_ | refine Vt ?_ | refine Vf ?_ | refine Vm ?_ | refine Ve ?_ | refine Vo ?_ | refine Vz ?_ | refine Vn ?_)
    (refine Ops_callM (by exact Va) rfl rfl (fun w_ e_ => down_v (base2 := w.heap.size) (M := []) p.a len w_ (h2.ext e_) ⟨k_b2.ext e_, Own.nil, fun e => by cases e⟩ ha (by omega) (fun hf => by have := h.lt hf; omega) (fun c hc => by cases hc) (Nat.le_trans e2.size e_.size) (by decide)) ?_)
    intro r w3 w0_ e0 m3 hR
    obtain ⟨rfl, v', hA, _⟩ := hR
    have e3 : Ext w w3 := Mod.ext_of (e2.trans e0) m3 (fun c hc => hc.elim (fun e => e ▸ g2) (fun e => by cases e))
    have hc : w3.cell? ⟨b2, 0, none⟩ = some v' := hA.blk.cell rfl
    have hO := hA.own
    repeat (first | refine Vx ?_ | (apply Ops_q; (case hon => exact Va); (case hd => rfl); (case hq => exact YlA)) | refine Vr ?_ | refine Vt ?_ | refine Vf ?_ | refine Vm ?_ | refine Ve ?_ | refine Vo ?_ | refine Vz ?_ | refine Vn ?_)
    refine ret1 (by first | exact .inl rfl | exact .inr rfl) rfl rfl ?_
    exact Gives_mk (fun w' he => by rw [hAb]; exact hO.ext he) e3
end Go.Proofs.Ytjpnaofoeeegeaa


/-
  Stride tables (layer 8): extend, find, size, and the iterator over a block's digits.
  Conditions: lists of runs are sorted and begin below 2^32.
-/
namespace Go.Proofs.Ytjpnaofoeeegeaa
open Go.RowKit

def rnC (r : Rn) : List Value := [.int .u64 r.1, .int .i64 r.2]
def Rns (w : World) (ao : Option Addr) (R : List Rn) : Prop := Arr w 2 ao (R.map rnC)
theorem Rns.ext {w w' : World} {ao : Option Addr} {R : List Rn} (h : Rns w ao R) (he : Ext w w') : Rns w' ao R := Arr.ext h he
theorem Rns.at {w : World} {ao : Option Addr} {R : List Rn} (h : Rns w ao R) {k : Nat} {x : Rn} (hk : R[k]? = some x) : ∃ ad, ao = some ad ∧ Cells w (ad.add (k * 2)) [.int .u64 x.1, .int .i64 x.2] := h k (rnC x) (by rw [List.getElem?_map, hk]; rfl)
/-- What extend leaves. -/
def ExtR (base : Nat) (R : List Rn) (v : Value) (w0 : World) (r : Value) (w' : World) : Prop :=
  Own w' base 94 2 r (R.map rnC) ∧ ∀ c, r.ownBlock = some c → v.ownBlock = some c ∨ w0.heap.size ≤ c
set_option maxHeartbeats 1000000 in
theorem extend_v {base : Nat} {v : Value} (R : List Rn) (first : Nat) (value : Int) (w : World) (hO : Own w base 94 2 v (R.map rnC)) (hb : base ≤ w.heap.size) (hn : R.length ≤ 4294967296) :
    Calls Try.prog 78 #[v, .int .u64 first, .int .i64 value] w (Does (fun c => v.ownBlock = some c) (ExtR base (extR R first value) v w) w) := by
  have happ : ∀ (w1 : World), Ext w w1 → (extR R first value = R ++ [((first : Nat), value)]) → ∀ (v' : Value) (w2 : World), Own w2 base 94 2 v' (R.map rnC ++ [rnC (first, value)]) → ((∃ b, v'.ownBlock = some b ∧ w1.heap.size ≤ b) ∨ v'.ownBlock = v.ownBlock) → ∀ w3, Ext w2 w3 → ExtR base (extR R first value) v w v' w3 := fun w1 x1 e v' w2 o2 hd w3 x3 => by
    refine ⟨?_, fun c hc => ?_⟩
    · rw [e, List.map_append]; exact o2.ext x3
    · rcases hd with ⟨b, h1, h2⟩ | h
      · rw [h1] at hc; cases hc; exact .inr (Nat.le_trans x1.size h2)
      · rw [← h]; exact .inl hc
  obtain ⟨ao, c, rfl, hA⟩ := hO.slice
  rw [List.length_map] at *
  refine V_enter (vs := [_, _, _]) Try.func78 rfl Try.ntmps78 (Nat.le_of_ble_eq_true rfl) ?_
  cases R with
  | nil =>
    repeat (first | refine Vx ?_ | (apply Ops_q; (case hon => exact Va); (case hd => rfl); (case hq => exact YlA)) | refine Vr ?_ | refine Vt ?_ | refine Vf ?_ | refine Vm ?_ | refine Ve ?_ | refine Vo ?_ | refine Vz ?_ | refine Vn ?_)
    (refine Ops_lit (by exact Va) rfl rfl rfl ?_; intro w1 b1 n_b1; have k_b1 := n_b1.blk)
    repeat (first | refine Vx ?_ | (apply Ops_q; (case hon => exact Va); (case hd => rfl); (case hq => exact YlA)) | refine Vr ?_ | refine Vt ?_ | refine Vf ?_ | refine Vm ?_ | refine Ve ?_ | refine Vo ?_ | refine Vz ?_ | refine Vn ?_)
    (refine Ops_append1 (by exact Va) rfl rfl rfl rfl (hO.ext n_b1.ext) k_b1.cells inferInstance inferInstance (by first | omega | (rw [List.length_map]; omega)) rfl (Nat.le_trans hb n_b1.ext.size) ?_; intro v2 w2 o_v2 g_w2 d_v2)
    repeat (first | refine Vx ?_ | (apply Ops_q; (case hon => exact Va); (case hd => rfl); (case hq => exact YlA)) | refine Vr ?_ | refine Vt ?_ | refine Vf ?_ | refine Vm ?_ | refine Ve ?_ | refine Vo ?_ | refine Vz ?_ | refine Vn ?_)
    refine ret1 (by first | exact .inl rfl | exact .inr rfl) rfl rfl ?_
    exact Does_mk (happ w1 n_b1.ext rfl v2 w2 o_v2 (d_v2.symm.imp id id)) ((Mod.of_ext n_b1.ext).grow g_w2 (fun b hb => .inl hb))
  | cons r0 R0 =>
    generalize hR : r0 :: R0 = R at *
    have hne : 0 < R.length := by rw [← hR]; simp
    obtain ⟨x, hx⟩ : ∃ x, R[R.length - 1]? = some x := ⟨_, List.getElem?_eq_getElem (by omega)⟩
    have hlast : R.getLast? = some x := by rw [List.getLast?_eq_getElem?]; exact hx
    have hA' : Rns w ao R := hA
    obtain ⟨ad, rfl, hc⟩ := hA'.at hx
    clear hA hR
    have e1 : ((R.length : Int) - 1) = ((R.length - 1 : Nat) : Int) := by omega
    have hd : decide ((0 : Int) < (R.length : Int)) = true := decide_eq_true (by omega)
    repeat (first | refine Vx ?_ | (apply Ops_q; (case hon => exact Va); (case hd => rfl); (case hq => exact YlA)) | refine Vr ?_ | refine Vt ?_ | refine Vf ?_ | refine Vm ?_ | refine Ve ?_ | refine Vo ?_ | refine Vz ?_ | refine Vn ?_)
    refine Ops_know rfl rfl hd ?_
    repeat (first | refine Vx ?_ | (apply Ops_q; (case hon => exact Va); (case hd => rfl); (case hq => exact YlA)) | refine Vr ?_ | refine Vt ?_ | refine Vf ?_ | refine Vm ?_ | refine Ve ?_ | refine Vo ?_ | refine Vz ?_ | refine Vn ?_)
    rw [e1]
    (apply Ops_q; (case hon => (exact Va)); (case hd => rfl); (case hq => exact Yl_indexS (j := R.length - 1) rfl rfl (by omega)))
    repeat (first | refine Vx ?_ | (apply Ops_q; (case hon => exact Va); (case hd => rfl); (case hq => exact YlA)) | refine Vr ?_ | refine Vt ?_ | refine Vf ?_ | refine Vm ?_ | refine Ve ?_ | refine Vo ?_ | refine Vz ?_ | refine Vn ?_)
    have hc2 : w.cell? ((ad.add ((R.length - 1) * 2)).add 1) = some (.int .i64 x.2) := hc 1 _ rfl
    repeat (first | refine Vx ?_ | (apply Ops_q; (case hon => exact Va); (case hd => rfl); (case hq => exact YlA)) | refine Vr ?_ | refine Vt ?_ | refine Vf ?_ | refine Vm ?_ | refine Ve ?_ | refine Vo ?_ | refine Vz ?_ | refine Vn ?_)
    refine V_cond rfl (fun he => ?_) (fun he => ?_)
    · replace he := of_decide_eq_true he
      repeat (first | refine Vx ?_ | (apply Ops_q; (case hon => exact Va); (case hd => rfl); (case hq => exact YlA)) | refine Vr ?_ | refine Vt ?_ | refine Vf ?_ | refine Vm ?_ | refine Ve ?_ | refine Vo ?_ | refine Vz ?_ | refine Vn ?_)
      refine ret1 (by first | exact .inl rfl | exact .inr rfl) rfl rfl ?_
      refine Does_mk (fun w' hw => ⟨?_, fun c hc => .inl hc⟩) (.of_ext (Ext.refl _))
      unfold extR
      rw [hlast]
      dsimp only
      rw [if_pos he]; exact hO.ext hw
    · replace he := of_decide_eq_false he
      repeat (first | refine Vx ?_ | (apply Ops_q; (case hon => exact Va); (case hd => rfl); (case hq => exact YlA)) | refine Vr ?_ | refine Vt ?_ | refine Vf ?_ | refine Vm ?_ | refine Ve ?_ | refine Vo ?_ | refine Vz ?_ | refine Vn ?_)
      (refine Ops_lit (by exact Va) rfl rfl rfl ?_; intro w1 b1 n_b1; have k_b1 := n_b1.blk)
      repeat (first | refine Vx ?_ | (apply Ops_q; (case hon => exact Va); (case hd => rfl); (case hq => exact YlA)) | refine Vr ?_ | refine Vt ?_ | refine Vf ?_ | refine Vm ?_ | refine Ve ?_ | refine Vo ?_ | refine Vz ?_ | refine Vn ?_)
      (refine Ops_append1 (by exact Va) rfl rfl rfl rfl (hO.ext n_b1.ext) k_b1.cells inferInstance inferInstance (by first | omega | (rw [List.length_map]; omega)) rfl (Nat.le_trans hb n_b1.ext.size) ?_; intro v2 w2 o_v2 g_w2 d_v2)
      repeat (first | refine Vx ?_ | (apply Ops_q; (case hon => exact Va); (case hd => rfl); (case hq => exact YlA)) | refine Vr ?_ | refine Vt ?_ | refine Vf ?_ | refine Vm ?_ | refine Ve ?_ | refine Vo ?_ | refine Vz ?_ | refine Vn ?_)
      refine ret1 (by first | exact .inl rfl | exact .inr rfl) rfl rfl ?_
      exact Does_mk (happ w1 n_b1.ext (by unfold extR; rw [hlast]; dsimp only; rw [if_neg he]) v2 w2 o_v2 (d_v2.symm.imp id id)) ((Mod.of_ext n_b1.ext).grow g_w2 (fun b hb => .inl hb))
/-! ### find -/
theorem findCmp_v (r : Rn) (a : Nat) (w : World) : Calls Try.prog 95 #[.agg #[.int .u64 r.1, .int .i64 r.2], .int .u64 a] w (Ret (.int .i64 (if r.1 < a then -1 else if r.1 = a then 0 else 1)) w) := by
  refine V_enter (vs := [_, _]) Try.func95 rfl Try.ntmps95 (Nat.le_of_ble_eq_true rfl) ?_
  repeat (first | refine Vx ?_ | (apply Ops_q; (case hon => exact Va); (case hd => rfl); (case hq => exact YlA)) | refine Vr ?_ | refine Vt ?_ | refine Vf ?_ | refine Vm ?_ | refine Ve ?_ | refine Vo ?_ | refine Vz ?_ | refine Vn ?_)
  (refine Ops_box (by exact Va) rfl rfl rfl ?_; intro w1 b1 n_b1; have k_b1 := n_b1.blk)
  repeat (first | refine Vx ?_ | (apply Ops_q; (case hon => exact Va); (case hd => rfl); (case hq => exact YlA)) | refine Vr ?_ | refine Vt ?_ | refine Vf ?_ | refine Vm ?_ | refine Ve ?_ | refine Vo ?_ | refine Vz ?_ | refine Vn ?_)
  refine V_cond rfl (fun h => ?_) (fun h => ?_)
  · have h' : r.1 < a := by have := of_decide_eq_true h; omega
    repeat (first | refine Vx ?_ | (apply Ops_q; (case hon => exact Va); (case hd => rfl); (case hq => exact YlA)) | refine Vr ?_ | refine Vt ?_ | refine Vf ?_ | refine Vm ?_ | refine Ve ?_ | refine Vo ?_ | refine Vz ?_ | refine Vn ?_)
    refine ret1 (by first | exact .inl rfl | exact .inr rfl) rfl rfl ?_
    exact Ret_mk (by rw [if_pos h']) n_b1.ext
  · have h' : ¬r.1 < a := by have := of_decide_eq_false h; omega
    clear h
    repeat (first | refine Vx ?_ | (apply Ops_q; (case hon => exact Va); (case hd => rfl); (case hq => exact YlA)) | refine Vr ?_ | refine Vt ?_ | refine Vf ?_ | refine Vm ?_ | refine Ve ?_ | refine Vo ?_ | refine Vz ?_ | refine Vn ?_)
    refine V_cond rfl (fun h2 => ?_) (fun h2 => ?_)
    · have h2' : ¬r.1 = a := by have := of_decide_eq_true h2; omega
      repeat (first | refine Vx ?_ | (apply Ops_q; (case hon => exact Va); (case hd => rfl); (case hq => exact YlA)) | refine Vr ?_ | refine Vt ?_ | refine Vf ?_ | refine Vm ?_ | refine Ve ?_ | refine Vo ?_ | refine Vz ?_ | refine Vn ?_)
      refine ret1 (by first | exact .inl rfl | exact .inr rfl) rfl rfl ?_
      exact Ret_mk (by rw [if_neg h', if_neg h2']) n_b1.ext
    · have h2' : r.1 = a := by have := of_decide_eq_false h2; omega
      repeat (first | refine Vx ?_ | (apply Ops_q; (case hon => exact Va); (case hd => rfl); (case hq => exact YlA)) | refine Vr ?_ | refine Vt ?_ | refine Vf ?_ | refine Vm ?_ | refine Ve ?_ | refine Vo ?_ | refine Vz ?_ | refine Vn ?_)
      refine ret1 (by first | exact .inl rfl | exact .inr rfl) rfl rfl ?_
      exact Ret_mk (by rw [if_neg h', if_pos h2']) n_b1.ext
set_option maxHeartbeats 1000000 in
theorem bsearchR_v (ao : Option Addr) (R : List Rn) (c a k : Nat) (w : World) (hL : Rns w ao R) (hk : k ≤ R.length) (hs : ∀ i r, R[i]? = some r → (r.1 < a ↔ i < k)) (hn : R.length ≤ 4294967296) :
    Calls Try.prog 94 #[.slice ao R.length c, .int .u64 a, .func (.func 95) #[] #[]] w (Ret (.tuple #[.int .i64 k, .bool (decide (R[k]?.map (·.1) = some a))]) w) := by
  refine V_enter (vs := [_, _, _]) Try.func94 rfl Try.ntmps94 (Nat.le_of_ble_eq_true rfl) ?_
  repeat (first | refine Vx ?_ | (apply Ops_q; (case hon => exact Va); (case hd => rfl); (case hq => exact YlA)) | refine Vr ?_ | refine Vt ?_ | refine Vf ?_ | refine Vm ?_ | refine Ve ?_ | refine Vo ?_ | refine Vz ?_ | refine Vn ?_)
  refine V_loop (fun s : Nat × Nat => [(9, .int .i64 s.1), (10, .int .i64 s.2), (8, .int .i64 R.length), (0, .slice ao R.length c), (1, .int .u64 a), (2, .func (.func 95) #[] #[])])
    (fun s w' => Ext w w' ∧ s.1 ≤ k ∧ k ≤ s.2 ∧ s.2 ≤ R.length) (fun s => s.2 - s.1) (0, R.length) (by repeat (first | exact trivial | refine ⟨rfl, ?_⟩)) ⟨Ext.refl _, Nat.zero_le _, hk, Nat.le_refl _⟩ ?_
  rintro ⟨i, j⟩ w2 ⟨x2, hi, hj, hjl⟩
  dsimp only at hi hj hjl ⊢
  repeat (first | refine Vx ?_ | (apply Ops_q; (case hon => exact Va); (case hd => rfl); (case hq => exact YlA)) | refine Vr ?_ | refine Vt ?_ | refine Vf ?_ | refine Vm ?_ | refine Ve ?_ | refine Vo ?_ | refine Vz ?_ | refine Vn ?_)
  refine V_cond rfl (fun hg => ?_) (fun hg => ?_)
  · replace hg := of_decide_eq_true hg
    obtain ⟨h, hh⟩ : ∃ h : Nat, h = (i + j) / 2 := ⟨_, rfl⟩
    have hhl : h < R.length := by omega
    have eh : ((i : Int) + (j : Int)) / 2 = (h : Int) := by rw [hh]; omega
    obtain ⟨x, hx⟩ : ∃ x, R[h]? = some x := ⟨_, List.getElem?_eq_getElem hhl⟩
    obtain ⟨ad, rfl, hc⟩ := hL.at hx
    have hc1 : Cells w2 (ad.add (h * 2)) [.int .u64 x.1, .int .i64 x.2] := hc.ext x2
    have hxa := hs h x hx
    repeat (first | refine Vx ?_ | (apply Ops_q; (case hon => exact Va); (case hd => rfl); (case hq => exact YlA)) | refine Vr ?_ | refine Vt ?_ | refine Vf ?_ | refine Vm ?_ | refine Ve ?_ | refine Vo ?_ | refine Vz ?_ | refine Vn ?_)
    rw [eh]
    (apply Ops_q; (case hon => (exact Va)); (case hd => rfl); (case hq => exact Yl_indexS (j := h) rfl rfl (by omega)))
    repeat (first | refine Vx ?_ | (apply Ops_q; (case hon => exact Va); (case hd => rfl); (case hq => exact YlA)) | refine Vr ?_ | refine Vt ?_ | refine Vf ?_ | refine Vm ?_ | refine Ve ?_ | refine Vo ?_ | refine Vz ?_ | refine Vn ?_)
    (apply Ops_q; (case hon => (exact Va)); (case hd => rfl); (case hq => exact Yl_callv rfl rfl (fun w_ e_ => findCmp_v x a w_)))
    repeat (first | refine Vx ?_ | (apply Ops_q; (case hon => exact Va); (case hd => rfl); (case hq => exact YlA)) | refine Vr ?_ | refine Vt ?_ | refine Vf ?_ | refine Vm ?_ | refine Ve ?_ | refine Vo ?_ | refine Vz ?_ | refine Vn ?_)
    by_cases hlt : x.1 < a
    · have hd : decide ((if x.1 < a then (-1 : Int) else if x.1 = a then 0 else 1) < 0) = true := by rw [if_pos hlt]; rfl
      have hhA := hxa.1 hlt
      refine V_yes rfl hd ?_
      repeat (first | refine Vx ?_ | (apply Ops_q; (case hon => exact Va); (case hd => rfl); (case hq => exact YlA)) | refine Vr ?_ | refine Vt ?_ | refine Vf ?_ | refine Vm ?_ | refine Ve ?_ | refine Vo ?_ | refine Vz ?_ | refine Vn ?_)
      refine ⟨(h + 1, j), (by repeat (first | exact trivial | refine ⟨rfl, ?_⟩)), ⟨x2, hhA, hj, hjl⟩, by simp only; omega⟩
    · have hd : decide ((if x.1 < a then (-1 : Int) else if x.1 = a then 0 else 1) < 0) = false := by rw [if_neg hlt]; split <;> rfl
      have hhA : ¬h < k := fun hc => hlt (hxa.2 hc)
      refine V_no rfl hd ?_
      repeat (first | refine Vx ?_ | (apply Ops_q; (case hon => exact Va); (case hd => rfl); (case hq => exact YlA)) | refine Vr ?_ | refine Vt ?_ | refine Vf ?_ | refine Vm ?_ | refine Ve ?_ | refine Vo ?_ | refine Vz ?_ | refine Vn ?_)
      refine ⟨(i, h), (by repeat (first | exact trivial | refine ⟨rfl, ?_⟩)), ⟨x2, hi, by dsimp only; omega, by dsimp only; omega⟩, by simp only; omega⟩
  · replace hg := of_decide_eq_false hg
    obtain rfl : i = k := by omega
    repeat (first | refine Vx ?_ | (apply Ops_q; (case hon => exact Va); (case hd => rfl); (case hq => exact YlA)) | refine Vr ?_ | refine Vt ?_ | refine Vf ?_ | refine Vm ?_ | refine Ve ?_ | refine Vo ?_ | refine Vz ?_ | refine Vn ?_)
    refine Ops_split rfl rfl (fun h2 => ?_) (fun h2 => ?_)
    · have hil : i < R.length := by have := of_decide_eq_true h2; omega
      clear h2
      obtain ⟨x, hx⟩ : ∃ x, R[i]? = some x := ⟨_, List.getElem?_eq_getElem hil⟩
      obtain ⟨ad, rfl, hc⟩ := hL.at hx
      have hc1 : Cells w2 (ad.add (i * 2)) [.int .u64 x.1, .int .i64 x.2] := hc.ext x2
      have hnot : ¬x.1 < a := fun h => by have := (hs i x hx).1 h; omega
      rw [hx]
      repeat (first | refine Vx ?_ | (apply Ops_q; (case hon => exact Va); (case hd => rfl); (case hq => exact YlA)) | refine Vr ?_ | refine Vt ?_ | refine Vf ?_ | refine Vm ?_ | refine Ve ?_ | refine Vo ?_ | refine Vz ?_ | refine Vn ?_)
      (apply Ops_q; (case hon => (exact Va)); (case hd => rfl); (case hq => exact Yl_indexS (j := i) rfl rfl (by omega)))
      repeat (first | refine Vx ?_ | (apply Ops_q; (case hon => exact Va); (case hd => rfl); (case hq => exact YlA)) | refine Vr ?_ | refine Vt ?_ | refine Vf ?_ | refine Vm ?_ | refine Ve ?_ | refine Vo ?_ | refine Vz ?_ | refine Vn ?_)
      (apply Ops_q; (case hon => (exact Va)); (case hd => rfl); (case hq => exact Yl_callv rfl rfl (fun w_ e_ => findCmp_v x a w_)))
      rw [if_neg hnot]
      by_cases he : x.1 = a
      · rw [if_pos he]
        repeat (first | refine Vx ?_ | (apply Ops_q; (case hon => exact Va); (case hd => rfl); (case hq => exact YlA)) | refine Vr ?_ | refine Vt ?_ | refine Vf ?_ | refine Vm ?_ | refine Ve ?_ | refine Vo ?_ | refine Vz ?_ | refine Vn ?_)
        refine ret2 (by first | exact .inl rfl | exact .inr rfl) rfl rfl rfl ?_
        exact Ret_mk (by simp [he]) x2
      · rw [if_neg he]
        repeat (first | refine Vx ?_ | (apply Ops_q; (case hon => exact Va); (case hd => rfl); (case hq => exact YlA)) | refine Vr ?_ | refine Vt ?_ | refine Vf ?_ | refine Vm ?_ | refine Ve ?_ | refine Vo ?_ | refine Vz ?_ | refine Vn ?_)
        refine ret2 (by first | exact .inl rfl | exact .inr rfl) rfl rfl rfl ?_
        exact Ret_mk (by simp [he]) x2
    · have hil : R.length ≤ i := by have := of_decide_eq_false h2; omega
      rw [List.getElem?_eq_none hil]
      repeat (first | refine Vx ?_ | (apply Ops_q; (case hon => exact Va); (case hd => rfl); (case hq => exact YlA)) | refine Vr ?_ | refine Vt ?_ | refine Vf ?_ | refine Vm ?_ | refine Ve ?_ | refine Vo ?_ | refine Vz ?_ | refine Vn ?_)
      refine ret2 (by first | exact .inl rfl | exact .inr rfl) rfl rfl rfl ?_
      exact Ret_mk (by simp) x2
theorem findS_v {g : Nat → Int} {hi : Nat} (ao : Option Addr) (R : List Rn) (c a : Nat) (w : World) (hL : Rns w ao R) (hR : Canon g R hi) (hp : 0 < hi) (hn : R.length ≤ 4294967296) :
    Calls Try.prog 73 #[.slice ao R.length c, .int .u64 a] w (Ret (.int .i64 ((cntR R a - 1 : Nat) : Int)) w) := by
  obtain ⟨k, hk, hs⟩ : ∃ k, k ≤ R.length ∧ ∀ i r, R[i]? = some r → (r.1 < a ↔ i < k) := by
    rcases Nat.eq_zero_or_pos a with e | e
    · exact ⟨0, Nat.zero_le _, fun i r _ => by omega⟩
    · refine ⟨cntR R (a - 1), cntR_le .., fun i r hr => ?_⟩
      rw [cntR_iff hR.srt hr]; omega
  have hpos := hR.cnt_pos hp a
  have hk2 : decide (R[k]?.map (·.1) = some a) = true → cntR R a - 1 = k := fun h => by
    have h := of_decide_eq_true h
    obtain ⟨x, hx, hxa⟩ := Option.map_eq_some_iff.1 h
    have hkl := (List.getElem?_eq_some_iff.1 hx).1
    have : cntR R a = k + 1 := by
      refine cntR_split hkl (fun i r hi hr => ?_) (fun i r hi hr => ?_)
      · rcases Nat.lt_or_ge i k with h1 | h1
        · have := (hs i r hr).2 h1; omega
        · rw [show i = k by omega, hx] at hr; cases hr; omega
      · have := srt_at hR.srt hx hr (show k < i by omega)
        omega
    omega
  have hk3 : decide (R[k]?.map (·.1) = some a) = false → cntR R a = k := fun h => by
    have h := of_decide_eq_false h
    refine cntR_split hk (fun i r hi hr => ?_) (fun i r hi hr => ?_)
    · have := (hs i r hr).2 hi; omega
    · have h1 : ¬r.1 < a := fun h1 => by have := (hs i r hr).1 h1; omega
      have h2 : r.1 ≠ a := fun h2 => by
        rcases Nat.lt_or_ge k i with h3 | h3
        · obtain ⟨y, hy⟩ : ∃ y, R[k]? = some y := ⟨_, List.getElem?_eq_getElem (by have := (List.getElem?_eq_some_iff.1 hr).1; omega)⟩
          have h4 := srt_at hR.srt hy hr h3
          have h5 := (hs k y hy).1 (by omega)
          omega
        · obtain rfl : i = k := by omega
          rw [hr] at h
          exact h (by rw [Option.map_some, h2])
      omega
  refine V_enter (vs := [_, _]) Try.func73 rfl Try.ntmps73 (Nat.le_of_ble_eq_true rfl) ?_
  repeat (first | refine Vx ?_ | (apply Ops_q; (case hon => exact Va); (case hd => rfl); (case hq => exact YlA)) | refine Vr ?_ | refine Vt ?_ | refine Vf ?_ | refine Vm ?_ | refine Ve ?_ | refine Vo ?_ | refine Vz ?_ | refine Vn ?_)
  (apply Ops_q; (case hon => (exact Va)); (case hd => rfl); (case hq => exact Yl_call rfl (fun w_ e_ => bsearchR_v ao R c a k w_ (hL.ext e_) hk hs hn)))
  generalize decide (R[k]?.map (·.1) = some a) = fnd at *
  repeat (first | refine Vx ?_ | (apply Ops_q; (case hon => exact Va); (case hd => rfl); (case hq => exact YlA)) | refine Vr ?_ | refine Vt ?_ | refine Vf ?_ | refine Vm ?_ | refine Ve ?_ | refine Vo ?_ | refine Vz ?_ | refine Vn ?_)
  refine V_cond rfl (fun hf => ?_) (fun hf => ?_)
  · have e := hk2 hf
    repeat (first | refine Vx ?_ | (apply Ops_q; (case hon => exact Va); (case hd => rfl); (case hq => exact YlA)) | refine Vr ?_ | refine Vt ?_ | refine Vf ?_ | refine Vm ?_ | refine Ve ?_ | refine Vo ?_ | refine Vz ?_ | refine Vn ?_)
    refine ret1 (by first | exact .inl rfl | exact .inr rfl) rfl rfl ?_
    exact Ret_mk (by rw [e]) (Ext.refl _)
  · have e := hk3 hf
    have e2 : ((k : Int) - 1) = ((cntR R a - 1 : Nat) : Int) := by omega
    have hkk : k ≤ 4294967296 := by omega
    clear hk2 hk3 hs
    repeat (first | refine Vx ?_ | (apply Ops_q; (case hon => exact Va); (case hd => rfl); (case hq => exact YlA)) | refine Vr ?_ | refine Vt ?_ | refine Vf ?_ | refine Vm ?_ | refine Ve ?_ | refine Vo ?_ | refine Vz ?_ | refine Vn ?_)
    refine ret1 (by first | exact .inl rfl | exact .inr rfl) rfl rfl ?_
    exact Ret_mk (by rw [← e2]) (Ext.refl _)
/-! ### The digits of a block -/
theorem sizeS_v (a : Int) (d : Nat) (w : World) (hd : d ≤ 6) : Calls Try.prog 74 #[.agg #[.int .u64 a, .int .i64 d]] w (Ret (.int .u64 ((nsz d : Nat) : Int)) w) := by
  have e : max (32 - 6 * (d : Int)) 0 = ((32 - 6 * d : Nat) : Int) := by omega
  have e2 : (1 : Int) * 2 ^ (((32 - 6 * d : Nat) : Int)).toNat = ((nsz d : Nat) : Int) := by rw [Int.toNat_natCast, Int.one_mul]; unfold nsz; simp
  have h32 : nsz d ≤ 4294967296 := by
    have : nsz d ≤ 2 ^ 32 := Nat.pow_le_pow_right (by omega) (by omega)
    omega
  have hk : InK .u64 ((1 : Int) * 2 ^ (max (32 - 6 * (d : Int)) 0).toNat) := by rw [e, e2]; simp only [InK]; omega
  clear h32
  refine V_enter (vs := [_]) Try.func74 rfl Try.ntmps74 (Nat.le_of_ble_eq_true rfl) ?_
  repeat (first | refine Vx ?_ | (apply Ops_q; (case hon => exact Va); (case hd => rfl); (case hq => exact YlA)) | refine Vr ?_ | refine Vt ?_ | refine Vf ?_ | refine Vm ?_ | refine Ve ?_ | refine Vo ?_ | refine Vz ?_ | refine Vn ?_)
  (refine Ops_box (by exact Va) rfl rfl rfl ?_; intro w1 b1 n_b1; have k_b1 := n_b1.blk)
  repeat (first | refine Vx ?_ | (apply Ops_q; (case hon => exact Va); (case hd => rfl); (case hq => exact YlA)) | refine Vr ?_ | refine Vt ?_ | refine Vf ?_ | refine Vm ?_ | refine Ve ?_ | refine Vo ?_ | refine Vz ?_ | refine Vn ?_)
  rw [e, e2]
  refine ret1 (by first | exact .inl rfl | exact .inr rfl) rfl rfl ?_
  exact Ret_mk rfl n_b1.ext
/-- What the iterator yields of digit x. -/
abbrev partV (p : Nat × Nat) (x : Nat) : Value := .agg #[.int .u64 (digLo p.2 p.1 x), .int .i64 ((p.2 : Int) + 1), .bool (digOk p.2 x)]
set_option maxHeartbeats 2000000 in
theorem below_iter (b : Nat) (p : Nat × Nat) (hp : PlOk p) : Iter Try.prog 93 #[.pointer (some ⟨b, 0, none⟩)] 64 (fun k => [.int .i64 k, partV p k]) (fun w => Blk w b 120 [.int .u64 p.1, .int .i64 p.2]) := by
  obtain ⟨base, d⟩ := p
  obtain ⟨hd, h32⟩ := hp
  dsimp only at hd h32 ⊢
  intro l J Jx W hJ hJx hB hy h0
  refine callsR_iff.2 ?_
  show Calls _ _ #[_, _] _ _
  refine V_enter (vs := [_, _]) Try.func93 rfl Try.ntmps93 (Nat.le_of_ble_eq_true rfl) ?_
  repeat (first | refine Vx ?_ | (apply Ops_q; (case hon => exact Va); (case hd => rfl); (case hq => exact YlA)) | refine Vr ?_ | refine Vt ?_ | refine Vf ?_ | refine Vm ?_ | refine Ve ?_ | refine Vo ?_ | refine Vz ?_ | refine Vn ?_)
  refine V_loop (fun k : Nat => [(5, .int .i64 k), (0, .func (.yield l) #[] #[]), (1, .pointer (some ⟨b, 0, none⟩))]) (fun k w' => k ≤ 64 ∧ J k w') (fun k => 64 - k) 0 (by repeat (first | exact trivial | refine ⟨rfl, ?_⟩)) ⟨Nat.zero_le _, h0⟩ ?_
  rintro k w1 ⟨hk, hJk⟩
  have k_b := hB k w1 hJk
  repeat (first | refine Vx ?_ | (apply Ops_q; (case hon => exact Va); (case hd => rfl); (case hq => exact YlA)) | refine Vr ?_ | refine Vt ?_ | refine Vf ?_ | refine Vm ?_ | refine Ve ?_ | refine Vo ?_ | refine Vz ?_ | refine Vn ?_)
  refine V_cond rfl (fun hg => ?_) (fun hg => ?_)
  · replace hg := of_decide_eq_true hg
    have hk64 : k < 64 := by omega
    clear hg
    repeat (first | refine Vx ?_ | (apply Ops_q; (case hon => exact Va); (case hd => rfl); (case hq => exact YlA)) | refine Vr ?_ | refine Vt ?_ | refine Vf ?_ | refine Vm ?_ | refine Ve ?_ | refine Vo ?_ | refine Vz ?_ | refine Vn ?_)
    (refine Ops_alloc (by exact Va) rfl ?_; intro w2 b2 n_b2; have k_b2 := n_b2.blk)
    repeat (first | refine Vx ?_ | (apply Ops_q; (case hon => exact Va); (case hd => rfl); (case hq => exact YlA)) | refine Vr ?_ | refine Vt ?_ | refine Vf ?_ | refine Vm ?_ | refine Ve ?_ | refine Vo ?_ | refine Vz ?_ | refine Vn ?_)
    (refine Ops_store (by exact Va) rfl rfl (by assumption) (by first | rfl | exact OneAll.h) ?_; intro w3 u_w3; have k_b2 := u_w3.blk)
    have x3 := u_w3.below n_b2.ext n_b2.ge
    have hJ3 := hJ k w1 w3 hJk x3
    replace k_b := hB k w3 hJ3
    have hb2 : w1.heap.size ≤ b2 := n_b2.ge
    have hlo := dig_in (base := base) hd hk64
    clear n_b2 u_w3
    repeat (first | refine Vx ?_ | (apply Ops_q; (case hon => exact Va); (case hd => rfl); (case hq => exact YlA)) | refine Vr ?_ | refine Vt ?_ | refine Vf ?_ | refine Vm ?_ | refine Ve ?_ | refine Vo ?_ | refine Vz ?_ | refine Vn ?_)
    refine V_meet1 (fun _ : Unit => [(5, .int .i64 k), (3, .int .i64 k), (4, .pointer (some ⟨b2, 0, none⟩)), (0, .func (.yield l) #[] #[]), (1, .pointer (some ⟨b, 0, none⟩))])
      (fun _ w' => J k w' ∧ Blk w' b2 125 [.int .u64 (digLo d base k), .int .i64 ((d : Int) + 1), .bool (digOk d k)]) ?_ ?_
    · refine V_cond rfl (fun hd5 => ?_) (fun hd5 => ?_)
      · have hd5' : d < 5 := by have := of_decide_eq_true hd5; omega
        clear hd5
        have hm : InK .u64 ((k : Int) * ((nsz (d + 1) : Nat) : Int)) := by
          rw [← Int.natCast_mul]; unfold digLo at hlo; rw [if_pos hd5'] at hlo; simp only [InK]; omega
        have hs : InK .u64 ((base : Int) + (k : Int) * ((nsz (d + 1) : Nat) : Int)) := by
          rw [← Int.natCast_mul]; unfold digLo at hlo; rw [if_pos hd5'] at hlo; simp only [InK]; omega
        have e : (base : Int) + (k : Int) * ((nsz (d + 1) : Nat) : Int) = ((digLo d base k : Nat) : Int) := by unfold digLo; rw [if_pos hd5']; simp
        have eo : digOk d k = true := by unfold digOk; rw [decide_eq_true hd5']; rfl
        have ed : ((d : Int) + 1) = ((d + 1 : Nat) : Int) := by omega
        have hd6 : d + 1 ≤ 6 := by omega
        have hpart : Cells w3 ⟨b2, 0, none⟩ [.int .u64 base, .int .i64 ((d : Int) + 1)] := k_b2.part 0 2
        clear hlo h32
        refine V_region_mixed 12 (by kernel_rfl) (by kernel_rfl) rfl ?_
        repeat (first | refine Vx ?_ | (apply Ops_q; (case hon => exact Va); (case hd => rfl); (case hq => exact YlA)) | refine Vr ?_ | refine Vt ?_ | refine Vf ?_ | refine Vm ?_ | refine Ve ?_ | refine Vo ?_ | refine Vz ?_ | refine Vn ?_)
        rw [ed]
        (apply Ops_q; (case hon => (exact Va)); (case hd => rfl); (case hq => exact Yl_call rfl (fun w_ e_ => sizeS_v base (d + 1) w_ hd6)))
        repeat (first | refine Vx ?_ | (apply Ops_q; (case hon => exact Va); (case hd => rfl); (case hq => exact YlA)) | refine Vr ?_ | refine Vt ?_ | refine Vf ?_ | refine Vm ?_ | refine Ve ?_ | refine Vo ?_ | refine Vz ?_ | refine Vn ?_)
        rw [← ed]
        repeat (first | refine Vx ?_ | (apply Ops_q; (case hon => exact Va); (case hd => rfl); (case hq => exact YlA)) | refine Vr ?_ | refine Vt ?_ | refine Vf ?_ | refine Vm ?_ | refine Ve ?_ | refine Vo ?_ | refine Vz ?_ | refine Vn ?_)
        (refine Ops_store (by exact Va) rfl rfl (by assumption) (by first | rfl | exact OneAll.h) ?_; intro w4 u_w4; have k_b2 := u_w4.blk)
        have x4 : Ext w1 w4 := u_w4.below x3 hb2
        repeat (first | refine Vx ?_ | (apply Ops_q; (case hon => exact Va); (case hd => rfl); (case hq => exact YlA)) | refine Vr ?_ | refine Vt ?_ | refine Vf ?_ | refine Vm ?_ | refine Ve ?_ | refine Vo ?_ | refine Vz ?_ | refine Vn ?_)
        refine ⟨(), (by repeat (first | exact trivial | refine ⟨rfl, ?_⟩)), hJ k w1 w4 hJk x4, ?_⟩
        rw [eo, ← e]; exact k_b2
      · have hd5' : d = 5 := by have := of_decide_eq_false hd5; omega
        clear hd5
        subst hd5'
        have e : (base : Int) + (((k / 16 : Nat) : Nat) : Int) = ((digLo 5 base k : Nat) : Int) := by unfold digLo; rw [if_neg (by omega)]; simp
        have eo : digOk 5 k = decide ((k : Int) % 16 = 0) := by
          unfold digOk
          rw [decide_eq_false (show ¬(5 : Nat) < 5 by omega), Bool.false_or]
          by_cases h : k % 16 = 0
          · rw [decide_eq_true h, decide_eq_true (by omega)]
          · rw [decide_eq_false h, decide_eq_false (by omega)]
        have eq : (k : Int) / 16 = ((k / 16 : Nat) : Int) := by omega
        clear hlo
        repeat (first | refine Vx ?_ | (apply Ops_q; (case hon => exact Va); (case hd => rfl); (case hq => exact YlA)) | refine Vr ?_ | refine Vt ?_ | refine Vf ?_ | refine Vm ?_ | refine Ve ?_ | refine Vo ?_ | refine Vz ?_ | refine Vn ?_)
        rw [eq]
        repeat (first | refine Vx ?_ | (apply Ops_q; (case hon => exact Va); (case hd => rfl); (case hq => exact YlA)) | refine Vr ?_ | refine Vt ?_ | refine Vf ?_ | refine Vm ?_ | refine Ve ?_ | refine Vo ?_ | refine Vz ?_ | refine Vn ?_)
        (refine Ops_store (by exact Va) rfl rfl (by assumption) (by first | rfl | exact OneAll.h) ?_; intro w4 u_w4; have k_b2 := u_w4.blk)
        have x4 : Ext w1 w4 := u_w4.below x3 hb2
        clear u_w4
        repeat (first | refine Vx ?_ | (apply Ops_q; (case hon => exact Va); (case hd => rfl); (case hq => exact YlA)) | refine Vr ?_ | refine Vt ?_ | refine Vf ?_ | refine Vm ?_ | refine Ve ?_ | refine Vo ?_ | refine Vz ?_ | refine Vn ?_)
        (refine Ops_store (by exact Va) rfl rfl (by assumption) (by first | rfl | exact OneAll.h) ?_; intro w5 u_w5; have k_b2 := u_w5.blk)
        have x5 : Ext w1 w5 := u_w5.below x4 hb2
        repeat (first | refine Vx ?_ | (apply Ops_q; (case hon => exact Va); (case hd => rfl); (case hq => exact YlA)) | refine Vr ?_ | refine Vt ?_ | refine Vf ?_ | refine Vm ?_ | refine Ve ?_ | refine Vo ?_ | refine Vz ?_ | refine Vn ?_)
        refine ⟨(), (by repeat (first | exact trivial | refine ⟨rfl, ?_⟩)), hJ k w1 w5 hJk x5, ?_⟩
        rw [eo, ← e]; exact k_b2
    · rintro _ w4 ⟨hJ4, k_b2⟩
      refine V_seq ?_
      refine V_yield 3 (ly := l) (vs := [.int .i64 k, partV (base, d) k]) (R := Rounds 64 J Jx k) rfl rfl ?_
      repeat (first | refine Vx ?_ | (apply Ops_q; (case hon => exact Va); (case hd => rfl); (case hq => exact YlA)) | refine Vr ?_ | refine Vt ?_ | refine Vf ?_ | refine Vm ?_ | refine Ve ?_ | refine Vo ?_ | refine Vz ?_ | refine Vn ?_)
      refine ⟨rfl, rfl, fun w5 x5 => hy k w5 hk64 (hJ k w4 w5 hJ4 x5), ?_⟩
      rintro e w5 (⟨rfl, _, hJ5⟩ | ⟨rfl, hJ5⟩)
      · refine ⟨_, rfl, ?_⟩
        repeat (first | refine Vx ?_ | (apply Ops_q; (case hon => exact Va); (case hd => rfl); (case hq => exact YlA)) | refine Vr ?_ | refine Vt ?_ | refine Vf ?_ | refine Vm ?_ | refine Ve ?_ | refine Vo ?_ | refine Vz ?_ | refine Vn ?_)
        refine ⟨k + 1, (by repeat (first | exact trivial | refine ⟨rfl, ?_⟩)), ⟨hk64, hJ5⟩, by omega⟩
      · refine ⟨_, rfl, ?_⟩
        repeat (first | refine Vx ?_ | (apply Ops_q; (case hon => exact Va); (case hd => rfl); (case hq => exact YlA)) | refine Vr ?_ | refine Vt ?_ | refine Vf ?_ | refine Vm ?_ | refine Ve ?_ | refine Vo ?_ | refine Vz ?_ | refine Vn ?_)
        refine ret0 (by first | exact .inl rfl | exact .inr rfl) rfl ?_
        exact fun w' hw => ⟨⟨_, rfl⟩, .inr (hJx _ _ hJ5 hw)⟩
  · replace hg := of_decide_eq_false hg
    obtain rfl : k = 64 := by omega
    repeat (first | refine Vx ?_ | (apply Ops_q; (case hon => exact Va); (case hd => rfl); (case hq => exact YlA)) | refine Vr ?_ | refine Vt ?_ | refine Vf ?_ | refine Vm ?_ | refine Ve ?_ | refine Vo ?_ | refine Vz ?_ | refine Vn ?_)
    refine ret0 (by first | exact .inl rfl | exact .inr rfl) rfl ?_
    exact fun w' hw => ⟨⟨_, rfl⟩, .inl (hJ 64 _ _ hJk hw)⟩
end Go.Proofs.Ytjpnaofoeeegeaa


/-
  Functions that hold loops over iterators: leaving with results; blocks told apart by their types; loops and tests at the level of marks.
  No conditions beyond those that each rule states.
-/
namespace Go.Proofs.Ytjpnaofoeeegeaa
open Go.RowKit

section
variable {w w1 : World} {b b' base base' n n' : Nat} {t t' e e' : TypeId} {cs cs' : List Value} {v v' : Value} {L L' : List (List Value)}
theorem blk_ne (h : Blk w b t cs) (h' : Blk w b' t' cs') (ht : Nat.beq t t' = false) : b ≠ b' := fun eb => by
  subst eb
  unfold Blk at h h'
  rw [h] at h'
  injection h' with h1
  injection h1 with h2 h3
  rw [h3, Nat.beq_refl] at ht; cases ht
theorem own_blk_ne (h : Own w base e n v L) (h' : Blk w b t cs) (ht : Nat.beq e t = false) : v.ownBlock ≠ some b := fun eb => by
  obtain ⟨cur, hc⟩ := own_cells_at h eb
  unfold Blk at h'
  rw [hc] at h'
  injection h' with h1
  injection h1 with h2 h3
  rw [h3, Nat.beq_refl] at ht; cases ht
theorem own_own_ne (h : Own w base e n v L) (h' : Own w base' e' n' v' L') (ht : Nat.beq e e' = false) : v.ownBlock ≠ v'.ownBlock ∨ v.ownBlock = none := by
  cases hv : v.ownBlock with
  | none => exact .inr rfl
  | some b =>
    left
    intro eb
    obtain ⟨cur, hc⟩ := own_cells_at h hv
    obtain ⟨cur', hc'⟩ := own_cells_at h' eb.symm
    rw [hc] at hc'
    injection hc' with h1
    injection h1 with h2 h3
    rw [h3, Nat.beq_refl] at ht; cases ht
end
section
variable {P : Program} {n : Nat} {Q : Exit → List Nat → Env → World → Prop} {Ds : List Nat} {m : Env} {w : World}
theorem retR1D {fn : Func} {R : Ending → World → Prop} {e : Exit} {r : ResultVar} {v : Value} (he : e = .ret ∨ e = .normal) (hr : fn.results = #[r]) (hM : Marks Ds w)
    (hv : ∀ w', Mod (fun c => c ∈ Ds) w w' → Res P ⟨n, Ds.map mark, none⟩ m w' r v ∧ R (.returned v) w') : retD P fn n R e Ds m w := by
  have : Marks Ds w ∧ ∀ w', Mod (fun c => c ∈ Ds) w w' → ∃ v, (∀ a, Agree ⟨n, Ds.map mark, none⟩ m a → (results fn a.tmps).run P w' = .ok v w') ∧ R (.returned v) w' :=
    ⟨hM, fun w' hw => ⟨v, fun a ha => by
      rw [results_eq, hr]
      simp [run_res (hv w' hw).1 ha (Ext.refl w')], (hv w' hw).2⟩⟩
  rcases he with rfl | rfl <;> exact this
theorem retR2D {fn : Func} {R : Ending → World → Prop} {e : Exit} {r s : ResultVar} {v x : Value} (he : e = .ret ∨ e = .normal) (hr : fn.results = #[r, s]) (hM : Marks Ds w)
    (hv : ∀ w', Mod (fun c => c ∈ Ds) w w' → Res P ⟨n, Ds.map mark, none⟩ m w' r v ∧ Res P ⟨n, Ds.map mark, none⟩ m w' s x ∧ R (.returned (.tuple #[v, x])) w') : retD P fn n R e Ds m w := by
  have : Marks Ds w ∧ ∀ w', Mod (fun c => c ∈ Ds) w w' → ∃ v, (∀ a, Agree ⟨n, Ds.map mark, none⟩ m a → (results fn a.tmps).run P w' = .ok v w') ∧ R (.returned v) w' :=
    ⟨hM, fun w' hw => ⟨_, fun a ha => by
      rw [results_eq, hr]
      simp [run_res (hv w' hw).1 ha (Ext.refl w'), run_res (hv w' hw).2.1 ha (Ext.refl w')], (hv w' hw).2.2⟩⟩
  rcases he with rfl | rfl <;> exact this
/-- A marked block is no block of cells, and no slice's row. -/
theorem Marks.blk {b : Nat} {t : TypeId} {cs : List Value} {w' : World} (h : Marks Ds w) (hm : Mod (fun c => c ∈ Ds) w w') (hB : Blk w b t cs) : Blk w' b t cs :=
  hm.blk hB (fun hb => by have := h.at_ b hb; unfold Blk at hB; rw [this] at hB; cases hB)
theorem Marks.own_mod {base n0 : Nat} {e : TypeId} {v : Value} {L : List (List Value)} {w' : World} (h : Marks Ds w) (hm : Mod (fun c => c ∈ Ds) w w') (ho : Own w base e n0 v L) : Own w' base e n0 v L :=
  hm.own ho (fun b hb hc => by obtain ⟨cur, h1⟩ := own_cells_at ho hb; have := h.at_ b hc; rw [this] at h1; cases h1)
theorem Marks.ge_mod {w0 w' : World} (h : ∀ D ∈ Ds, w0.heap.size ≤ D) (he : Ext w0 w) (hm : Mod (fun c => c ∈ Ds) w w') : Ext w0 w' := hm.ext_of he (fun c hc => h c hc)
end
end Go.Proofs.Ytjpnaofoeeegeaa


/-
  The cells of a number.
  No conditions.
-/
namespace Go.Proofs.Ytjpnaofoeeegeaa
open Go.RowKit

def ic (x : Int) : List Value := [.int .i64 x]
end Go.Proofs.Ytjpnaofoeeegeaa


/-
  Stride tables (layer 8): compress.
  Conditions: the runs are those of some function, in order.
-/
namespace Go.Proofs.Ytjpnaofoeeegeaa
open Go.RowKit

def Nd.cells (n : Nd) : List Value := [.int .u64 n.inner, .int .u64 n.leaf, .int .i64 n.nodes, .int .i64 n.first]
def plC (p : Nat × Nat) : List Value := [.int .u64 p.1, .int .i64 p.2]
theorem Canon.len {g : Nat → Int} {R : List Rn} {hi : Nat} (h : Canon g R hi) : R.length ≤ hi := by
  have aux : ∀ (i : Nat) (r : Rn), R[i]? = some r → i ≤ r.1 := by
    intro i
    induction i with
    | zero => intro r _; exact Nat.zero_le _
    | succ i ih =>
      intro r hr
      have hl := (List.getElem?_eq_some_iff.1 hr).1
      have hs : R[i]? = some R[i] := List.getElem?_eq_getElem (by omega)
      have h1 := ih _ hs
      have h2 := srt_at h.srt hs hr (Nat.lt_succ_self i)
      omega
  rcases Nat.eq_zero_or_pos R.length with e | e
  · omega
  · have hs : R[R.length - 1]? = some R[R.length - 1] := List.getElem?_eq_getElem (by omega)
    have h1 := aux _ _ hs
    have h2 := h.lt _ (List.mem_of_getElem? hs)
    omega
theorem or_step {P : Nat → Bool} {k : Nat} (hk : k < 64) (hp : P k = true) : bits .or .u64 ((mkW P k : Nat) : Int) (1 * 2 ^ ((k : Nat) : Int).toNat) = ((mkW P (k + 1) : Nat) : Int) := by
  have h1 : mkW P k < 18446744073709551616 := Nat.lt_of_lt_of_le (mkW_lt P k) (Nat.pow_le_pow_right (n := 2) (j := 64) (by omega) (by omega))
  have h2 : 2 ^ k < 18446744073709551616 := Nat.pow_lt_pow_right (a := 2) (n := 64) (by omega) (by omega)
  have e : (1 : Int) * 2 ^ ((k : Nat) : Int).toNat = ((2 ^ k : Nat) : Int) := by rw [Int.toNat_natCast, Int.one_mul]; simp
  rw [e, u64_or_nat _ _ h1 h2, mkW_or, mkW, if_pos hp]
theorem pow_in {k : Nat} (hk : k < 64) : InK .u64 ((1 : Int) * 2 ^ ((k : Nat) : Int).toNat) := by
  have h2 : 2 ^ k < 18446744073709551616 := Nat.pow_lt_pow_right (a := 2) (n := 64) (by omega) (by omega)
  have e : (1 : Int) * 2 ^ ((k : Nat) : Int).toNat = ((2 ^ k : Nat) : Int) := by rw [Int.toNat_natCast, Int.one_mul]; simp
  have h3 : 0 < 2 ^ k := Nat.two_pow_pos k
  rw [e]; simp only [InK]; generalize 2 ^ k = q at *; omega
theorem own_litN {w w1 : World} {b n0 : Nat} {e : TypeId} {u : List Value} (h : New w w1 b e u) (hu : u.length = n0) : Own w1 w.heap.size e n0 (.slice (some ⟨b, 0, none⟩) 1 1) [u] :=
  ⟨⟨by simp [hu], .inr ⟨b, 1, u.toArray, rfl, h.ge, h.blk, Nat.le_refl _, by unfold maxLen; omega, by simp [hu], by simp [← hu]⟩⟩, by simp [hu]⟩
/-! ### What a digit changes -/
section
variable {f : Nat → Int} {p : Nat × Nat} {x : Nat}
theorem inB_of (hd : p.2 ≤ 5) (h : inB f p x = true) : digOk p.2 x = true ∧ p.2 < 5 ∧ ¬Flat f (digLo p.2 p.1 x) (digLo p.2 p.1 x + nsz (p.2 + 1)) ∧ digK f p x = some none := by
  have hK : digK f p x = some none := by
    unfold inB at h
    split at h
    · assumption
    · cases h
  have h5 : p.2 ≠ 5 := fun e => by
    obtain ⟨b, d⟩ := p
    dsimp only at e; subst e
    rw [inB_five] at h; cases h
  have hK' := hK
  unfold digK at hK'
  split at hK'
  · rename_i hok
    split at hK'
    · cases hK'
    · rename_i hf
      exact ⟨hok, by omega, fun hc => hf (flat_iff.2 hc), hK⟩
  · cases hK'
theorem leaf_of (h : inB f p x = false) (hok : digOk p.2 x = true) : digK f p x = some (some (f (digLo p.2 p.1 x))) ∧ Flat f (digLo p.2 p.1 x) (digLo p.2 p.1 x + nsz (p.2 + 1)) := by
  have hK : digK f p x ≠ some none := fun e => by unfold inB at h; rw [e] at h; cases h
  unfold digK at hK ⊢
  rw [if_pos hok] at hK ⊢
  split at hK
  · rename_i hf
    rw [if_pos hf]; exact ⟨rfl, flat_iff.1 hf⟩
  · exact absurd rfl hK
theorem dnone_of (hok : digOk p.2 x = false) : digK f p x = none ∧ inB f p x = false := by
  have : digK f p x = none := by unfold digK; rw [hok]; rfl
  exact ⟨this, by unfold inB; rw [this]⟩
theorem step_in (h : inB f p x = true) (hK : digK f p x = some none) : kdP f p (x + 1) = kdP f p x ++ [(digLo p.2 p.1 x, p.2 + 1)] ∧ lvP f p (x + 1) = lvP f p x ∧ mkW (stB f p) (x + 1) = mkW (stB f p) x := by
  have hs : stB f p x = false := by unfold stB; rw [hK]
  exact ⟨by rw [kdP, if_pos h], by rw [lvP, hK], by rw [mkW, hs]; rfl⟩
theorem step_out (h : inB f p x = false) : kdP f p (x + 1) = kdP f p x ∧ mkW (inB f p) (x + 1) = mkW (inB f p) x := by
  exact ⟨by rw [kdP, h]; rfl, by rw [mkW, h]; rfl⟩
theorem step_none (hK : digK f p x = none) : lvP f p (x + 1) = lvP f p x ∧ mkW (stB f p) (x + 1) = mkW (stB f p) x := by
  have hs : stB f p x = false := by unfold stB; rw [hK]
  exact ⟨by rw [lvP, hK], by rw [mkW, hs]; rfl⟩
theorem step_same {v : Int} (hK : digK f p x = some (some v)) (hl : (lvP f p x).getLast? = some v) : lvP f p (x + 1) = lvP f p x ∧ stB f p x = false := by
  exact ⟨by rw [lvP, hK]; dsimp only; rw [if_pos hl], by unfold stB; rw [hK]; simp [hl]⟩
theorem step_new {v : Int} (hK : digK f p x = some (some v)) (hl : (lvP f p x).getLast? ≠ some v) : lvP f p (x + 1) = lvP f p x ++ [v] ∧ stB f p x = true := by
  exact ⟨by rw [lvP, hK]; dsimp only; rw [if_neg hl], by unfold stB; rw [hK]; simp [hl]⟩
/-- Behind the first digit of a lowest place there is a leaf. -/
theorem lvP_five (f : Nat → Int) (base : Nat) (hx : 0 < x) : lvP f (base, 5) x ≠ [] := fun e => by
  have h1 : digK f (base, 5) 0 = some (some (f (digLo 5 base 0))) := (leaf_of (inB_five f base 0) rfl).1
  have h2 := lvP_last h1
  obtain ⟨t, ht⟩ := lvP_pre f (base, 5) (show 0 + 1 ≤ x from hx)
  rw [e] at ht
  have h3 := (List.append_eq_nil_iff.1 ht).1
  rw [h3] at h2; cases h2
end
/-- What compress leaves of its own, between rounds. -/
structure CS (w0 : World) (ao : Option Addr) (R : List Rn) (c b1 b2 b3 b4 : Nat) (vN vL vR : Value) (N : List Nd) (L : List Int) (Q : List (Nat × Nat)) (w : World) : Prop where
  ext : Ext w0 w
  k1 : Blk w b1 64 [.slice ao R.length c]
  k2 : Blk w b2 32 [.slice none 0 0, .slice none 0 0]
  k3 : Blk w b3 32 [vN, vL]
  k4 : Blk w b4 121 [vR]
  n23 : b2 ≠ b3
  g3 : w0.heap.size ≤ b3
  g4 : w0.heap.size ≤ b4
  g2 : w0.heap.size ≤ b2
  oN : Own w w0.heap.size 73 4 vN (N.map Nd.cells)
  oL : Own w w0.heap.size 3 1 vL (L.map ic)
  oR : Own w w0.heap.size 120 2 vR (Q.map plC)
section
variable {w0 w w1 : World} {ao : Option Addr} {R : List Rn} {c b1 b2 b3 b4 : Nat} {vN vL vR : Value} {N : List Nd} {L : List Int} {Q : List (Nat × Nat)}
theorem CS.mono (h : CS w0 ao R c b1 b2 b3 b4 vN vL vR N L Q w) (he : Ext w w1) : CS w0 ao R c b1 b2 b3 b4 vN vL vR N L Q w1 :=
  ⟨h.ext.trans he, h.k1.ext he, h.k2.ext he, h.k3.ext he, h.k4.ext he, h.n23, h.g3, h.g4, h.g2, h.oN.ext he, h.oL.ext he, h.oR.ext he⟩
theorem CS.turn {l : Nat} (h : CS w0 ao R c b1 b2 b3 b4 vN vL vR N L Q w) (ht : Turn l w w1) (hl : w0.heap.size ≤ l) : CS w0 ao R c b1 b2 b3 b4 vN vL vR N L Q w1 :=
  ⟨ht.ext h.ext hl, ht.blk h.k1, ht.blk h.k2, ht.blk h.k3, ht.blk h.k4, h.n23, h.g3, h.g4, h.g2, ht.own h.oN, ht.own h.oL, ht.own h.oR⟩
/-- A store into another block. -/
theorem CS.upd {b : Nat} {t : TypeId} {cs cs' : List Value} (h : CS w0 ao R c b1 b2 b3 b4 vN vL vR N L Q w) (u : Upd w w1 b t cs) (hB : Blk w b t cs') (hb : w0.heap.size ≤ b)
    (h1 : Nat.beq 64 t = false) (h2 : Nat.beq 32 t = false) (h4 : Nat.beq 121 t = false) (hN : vN.ownBlock ≠ some b) (hL : vL.ownBlock ≠ some b) (hR : Nat.beq 120 t = false) :
    CS w0 ao R c b1 b2 b3 b4 vN vL vR N L Q w1 :=
  ⟨u.below h.ext hb, u.keep h.k1 (blk_ne h.k1 hB h1), u.keep h.k2 (blk_ne h.k2 hB h2), u.keep h.k3 (blk_ne h.k3 hB h2), u.keep h.k4 (blk_ne h.k4 hB h4), h.n23, h.g3, h.g4, h.g2, h.oN.upd u hN, h.oL.upd u hL, h.oR.upd u (own_blk_ne h.oR hB hR)⟩
/-- A place more. -/
theorem CS.pushR {w2 : World} {vR' : Value} {Q' : List (Nat × Nat)} (h : CS w0 ao R c b1 b2 b3 b4 vN vL vR N L Q w) (gr : w.grownBy w1 vR.ownBlock) (o' : Own w1 w0.heap.size 120 2 vR' (Q'.map plC)) (u : Upd w1 w2 b4 121 [vR']) :
    CS w0 ao R c b1 b2 b3 b4 vN vL vR' N L Q' w2 := by
  have ext1 : Ext w0 w1 := grow_below h.ext gr (fun k hk => h.oR.ge hk)
  have kp : ∀ {b : Nat} {t : TypeId} {cs : List Value}, Blk w b t cs → Nat.beq 120 t = false → Blk w1 b t cs := fun hB ht => grow_blk gr hB (fun e => own_blk_ne h.oR hB ht e.symm)
  have k1' := kp h.k1 rfl
  have k2' := kp h.k2 rfl
  have k3' := kp h.k3 rfl
  have k4' := kp h.k4 rfl
  have oN' := h.oN.grow gr (own_own_ne h.oN h.oR rfl)
  have oL' := h.oL.grow gr (own_own_ne h.oL h.oR rfl)
  exact ⟨u.below ext1 h.g4, u.keep k1' (blk_ne k1' k4' rfl), u.keep k2' (blk_ne k2' k4' rfl), u.keep k3' (blk_ne k3' k4' rfl), u.blk, h.n23, h.g3, h.g4, h.g2, oN'.upd u (own_blk_ne oN' k4' rfl), oL'.upd u (own_blk_ne oL' k4' rfl), o'.upd u (own_blk_ne o' k4' rfl)⟩
/-- A leaf more. -/
theorem CS.pushL {w2 : World} {vL' : Value} {L' : List Int} (h : CS w0 ao R c b1 b2 b3 b4 vN vL vR N L Q w) (gr : w.grownBy w1 vL.ownBlock) (o' : Own w1 w0.heap.size 3 1 vL' (L'.map ic)) (u : Upd w1 w2 b3 32 [vN, vL']) :
    CS w0 ao R c b1 b2 b3 b4 vN vL' vR N L' Q w2 := by
  have ext1 : Ext w0 w1 := grow_below h.ext gr (fun k hk => h.oL.ge hk)
  have kp : ∀ {b : Nat} {t : TypeId} {cs : List Value}, Blk w b t cs → Nat.beq 3 t = false → Blk w1 b t cs := fun hB ht => grow_blk gr hB (fun e => own_blk_ne h.oL hB ht e.symm)
  have k1' := kp h.k1 rfl
  have k2' := kp h.k2 rfl
  have k3' := kp h.k3 rfl
  have k4' := kp h.k4 rfl
  have oN' := h.oN.grow gr (own_own_ne h.oN h.oL rfl)
  have oR' := h.oR.grow gr (own_own_ne h.oR h.oL rfl)
  exact ⟨u.below ext1 h.g3, u.keep k1' (blk_ne k1' k3' rfl), u.keep k2' h.n23, u.blk, u.keep k4' (blk_ne k4' k3' rfl), h.n23, h.g3, h.g4, h.g2, oN'.upd u (own_blk_ne oN' k3' rfl), o'.upd u (own_blk_ne o' k3' rfl), oR'.upd u (own_blk_ne oR' k3' rfl)⟩
/-- A node more. -/
theorem CS.pushN {w2 : World} {vN' : Value} {N' : List Nd} (h : CS w0 ao R c b1 b2 b3 b4 vN vL vR N L Q w) (gr : w.grownBy w1 vN.ownBlock) (o' : Own w1 w0.heap.size 73 4 vN' (N'.map Nd.cells)) (u : Upd w1 w2 b3 32 [vN', vL]) :
    CS w0 ao R c b1 b2 b3 b4 vN' vL vR N' L Q w2 := by
  have ext1 : Ext w0 w1 := grow_below h.ext gr (fun k hk => h.oN.ge hk)
  have kp : ∀ {b : Nat} {t : TypeId} {cs : List Value}, Blk w b t cs → Nat.beq 73 t = false → Blk w1 b t cs := fun hB ht => grow_blk gr hB (fun e => own_blk_ne h.oN hB ht e.symm)
  have k1' := kp h.k1 rfl
  have k2' := kp h.k2 rfl
  have k3' := kp h.k3 rfl
  have k4' := kp h.k4 rfl
  have oL' := h.oL.grow gr (own_own_ne h.oL h.oN rfl)
  have oR' := h.oR.grow gr (own_own_ne h.oR h.oN rfl)
  exact ⟨u.below ext1 h.g3, u.keep k1' (blk_ne k1' k3' rfl), u.keep k2' h.n23, u.blk, u.keep k4' (blk_ne k4' k3' rfl), h.n23, h.g3, h.g4, h.g2, o'.upd u (own_blk_ne o' k3' rfl), oL'.upd u (own_blk_ne oL' k3' rfl), oR'.upd u (own_blk_ne oR' k3' rfl)⟩
end
/-- The last leaf's value, if there is one. -/
def lstOk (g : Nat → Int) (p : Nat × Nat) (k : Nat) (last : Int) (any : Bool) : Prop := (lvP g p k).getLast? = if any then some last else none
/-- The state of a round: what is known of the node under way. -/
structure CR (g : Nat → Int) (w0 : World) (ao : Option Addr) (R : List Rn) (c b1 b2 b3 b4 b6 b7 b8 bb : Nat) (Ds : List Nat) (vN : Value) (i : Nat) (p : Nat × Nat) (k : Nat) (vL vR : Value) (last : Int) (any : Bool) (w : World) : Prop where
  cs : CS w0 ao R c b1 b2 b3 b4 vN vL vR (ndsF g i) (lvF g i ++ lvP g p k) (rowF g i ++ kdP g p k) w
  k6 : Blk w b6 73 [.int .u64 (mkW (inB g p) k), .int .u64 (mkW (stB g p) k), .int .i64 (rowF g i).length, .int .i64 (lvF g i).length]
  k7 : Blk w b7 3 [.int .i64 last]
  k8 : Blk w b8 4 [.bool any]
  kb : Blk w bb 120 [.int .u64 p.1, .int .i64 p.2]
  g6 : w0.heap.size ≤ b6
  g7 : w0.heap.size ≤ b7
  g8 : w0.heap.size ≤ b8
  nN : vN.ownBlock ≠ some b6
  nL : vL.ownBlock ≠ some b7
  nR : vR.ownBlock ≠ some bb
  mks : Marks Ds w
section
variable {g : Nat → Int} {w0 w w1 : World} {ao : Option Addr} {R : List Rn} {c b1 b2 b3 b4 b6 b7 b8 bb : Nat} {Ds : List Nat} {vN vL vR : Value} {i : Nat} {p : Nat × Nat} {k : Nat} {last : Int} {any : Bool}
theorem CR.ext (h : CR g w0 ao R c b1 b2 b3 b4 b6 b7 b8 bb Ds vN i p k vL vR last any w) (he : Ext w w1) : CR g w0 ao R c b1 b2 b3 b4 b6 b7 b8 bb Ds vN i p k vL vR last any w1 :=
  ⟨h.cs.mono he, h.k6.ext he, h.k7.ext he, h.k8.ext he, h.kb.ext he, h.g6, h.g7, h.g8, h.nN, h.nL, h.nR, h.mks.ext he⟩
theorem CR.turn {l : Nat} (h : CR g w0 ao R c b1 b2 b3 b4 b6 b7 b8 bb Ds vN i p k vL vR last any w) (ht : Turn l w w1) (hl : w0.heap.size ≤ l) : CR g w0 ao R c b1 b2 b3 b4 b6 b7 b8 bb Ds vN i p k vL vR last any w1 :=
  ⟨h.cs.turn ht hl, ht.blk h.k6, ht.blk h.k7, ht.blk h.k8, ht.blk h.kb, h.g6, h.g7, h.g8, h.nN, h.nL, h.nR, h.mks.turn ht⟩
/-- The last value is set. -/
theorem CR.setLast {w2 : World} {last' : Int} (h : CR g w0 ao R c b1 b2 b3 b4 b6 b7 b8 bb Ds vN i p k vL vR last any w) (u7 : Upd w w1 b7 3 [.int .i64 last']) (u8 : Upd w1 w2 b8 4 [.bool true]) (hN : vN.ownBlock ≠ some b7) :
    CR g w0 ao R c b1 b2 b3 b4 b6 b7 b8 bb Ds vN i p k vL vR last' true w2 := by
  have cs1 := h.cs.upd u7 h.k7 h.g7 rfl rfl rfl hN h.nL rfl
  have k8 := u7.keep h.k8 (blk_ne h.k8 h.k7 rfl)
  have cs2 := cs1.upd u8 k8 h.g8 rfl rfl rfl (own_blk_ne cs1.oN k8 rfl) (own_blk_ne cs1.oL k8 rfl) rfl
  have k6 := u7.keep h.k6 (blk_ne h.k6 h.k7 rfl)
  have kb := u7.keep h.kb (blk_ne h.kb h.k7 rfl)
  exact ⟨cs2, u8.keep k6 (blk_ne k6 k8 rfl), u8.keep u7.blk (blk_ne u7.blk k8 rfl), u8.blk, u8.keep kb (blk_ne kb k8 rfl), h.g6, h.g7, h.g8, h.nN, h.nL, h.nR, (h.mks.upd u7 h.k7).upd u8 k8⟩
theorem CR.same (h : CR g w0 ao R c b1 b2 b3 b4 b6 b7 b8 bb Ds vN i p k vL vR last any w) (e1 : kdP g p (k + 1) = kdP g p k) (e2 : lvP g p (k + 1) = lvP g p k) (e3 : mkW (inB g p) (k + 1) = mkW (inB g p) k) (e4 : mkW (stB g p) (k + 1) = mkW (stB g p) k) :
    CR g w0 ao R c b1 b2 b3 b4 b6 b7 b8 bb Ds vN i p (k + 1) vL vR last any w :=
  ⟨by rw [e1, e2]; exact h.cs, by rw [e3, e4]; exact h.k6, h.k7, h.k8, h.kb, h.g6, h.g7, h.g8, h.nN, h.nL, h.nR, h.mks⟩
/-- An inner digit is noted. -/
theorem CR.inner {wa wb wc wd : World} {vR' : Value} (h : CR g w0 ao R c b1 b2 b3 b4 b6 b7 b8 bb Ds vN i p k vL vR last any w) (hin : inB g p k = true) (hK : digK g p k = some none)
    (ua : Upd w wa b6 73 [.int .u64 (mkW (inB g p) (k + 1)), .int .u64 (mkW (stB g p) k), .int .i64 (rowF g i).length, .int .i64 (lvF g i).length]) (eb : Ext wa wb) (gc : wb.grownBy wc vR.ownBlock)
    (oc : Own wc w0.heap.size 120 2 vR' ((rowF g i ++ kdP g p k).map plC ++ [plC (digLo p.2 p.1 k, p.2 + 1)])) (dc : vR'.ownBlock = vR.ownBlock ∨ ∃ b, vR'.ownBlock = some b ∧ wb.heap.size ≤ b) (ud : Upd wc wd b4 121 [vR']) :
    CR g w0 ao R c b1 b2 b3 b4 b6 b7 b8 bb Ds vN i p (k + 1) vL vR' last any wd := by
  obtain ⟨s1, s2, s3⟩ := step_in hin hK
  have csa := (h.cs.upd ua h.k6 h.g6 rfl rfl rfl h.nN (own_blk_ne h.cs.oL h.k6 rfl) rfl).mono eb
  have kp : ∀ {b : Nat} {t : TypeId} {cs : List Value}, Blk wb b t cs → vR.ownBlock ≠ some b → b ≠ b4 → Blk wd b t cs := fun hB hn h4 => ud.keep (grow_blk gc hB (fun e => hn e.symm)) h4
  have k6 := ua.blk.ext eb
  have k7 := (ua.keep h.k7 (blk_ne h.k7 h.k6 rfl)).ext eb
  have k8 := (ua.keep h.k8 (blk_ne h.k8 h.k6 rfl)).ext eb
  have kb := (ua.keep h.kb (blk_ne h.kb h.k6 rfl)).ext eb
  have mkb := (h.mks.upd ua h.k6).ext eb
  have k4c := grow_blk gc csa.k4 (fun e => own_blk_ne csa.oR csa.k4 rfl e.symm)
  have csd := csa.pushR (Q' := rowF g i ++ kdP g p (k + 1)) gc (by rw [s1, ← List.append_assoc, List.map_append]; exact oc) ud
  refine ⟨by rw [s2]; exact csd, by rw [s3]; exact kp k6 (own_blk_ne csa.oR k6 rfl) (blk_ne k6 csa.k4 rfl), kp k7 (own_blk_ne csa.oR k7 rfl) (blk_ne k7 csa.k4 rfl), kp k8 (own_blk_ne csa.oR k8 rfl) (blk_ne k8 csa.k4 rfl), kp kb h.nR (blk_ne kb csa.k4 rfl),
    h.g6, h.g7, h.g8, h.nN, h.nL, dis_app dc h.nR kb.lt, (mkb.own csa.oR gc).upd ud k4c⟩
/-- A new leaf is noted. -/
theorem CR.newLeaf {wa wb wc wd : World} {vL' : Value} {v : Int} (h : CR g w0 ao R c b1 b2 b3 b4 b6 b7 b8 bb Ds vN i p k vL vR last any w) (e1 : kdP g p (k + 1) = kdP g p k) (e2 : lvP g p (k + 1) = lvP g p k ++ [v]) (e3 : mkW (inB g p) (k + 1) = mkW (inB g p) k)
    (ua : Upd w wa b6 73 [.int .u64 (mkW (inB g p) k), .int .u64 (mkW (stB g p) (k + 1)), .int .i64 (rowF g i).length, .int .i64 (lvF g i).length]) (eb : Ext wa wb) (gc : wb.grownBy wc vL.ownBlock)
    (oc : Own wc w0.heap.size 3 1 vL' ((lvF g i ++ lvP g p k).map ic ++ [ic v])) (dc : vL'.ownBlock = vL.ownBlock ∨ ∃ b, vL'.ownBlock = some b ∧ wb.heap.size ≤ b) (ud : Upd wc wd b3 32 [vN, vL']) :
    CR g w0 ao R c b1 b2 b3 b4 b6 b7 b8 bb Ds vN i p (k + 1) vL' vR last any wd := by
  have csa := (h.cs.upd ua h.k6 h.g6 rfl rfl rfl h.nN (own_blk_ne h.cs.oL h.k6 rfl) rfl).mono eb
  have kp : ∀ {b : Nat} {t : TypeId} {cs : List Value}, Blk wb b t cs → vL.ownBlock ≠ some b → b ≠ b3 → Blk wd b t cs := fun hB hn h4 => ud.keep (grow_blk gc hB (fun e => hn e.symm)) h4
  have k6 := ua.blk.ext eb
  have k7 := (ua.keep h.k7 (blk_ne h.k7 h.k6 rfl)).ext eb
  have k8 := (ua.keep h.k8 (blk_ne h.k8 h.k6 rfl)).ext eb
  have kb := (ua.keep h.kb (blk_ne h.kb h.k6 rfl)).ext eb
  have mkb := (h.mks.upd ua h.k6).ext eb
  have k3c := grow_blk gc csa.k3 (fun e => own_blk_ne csa.oL csa.k3 rfl e.symm)
  have csd := csa.pushL (L' := lvF g i ++ lvP g p (k + 1)) gc (by rw [e2, ← List.append_assoc, List.map_append]; exact oc) ud
  refine ⟨by rw [e1]; exact csd, by rw [e3]; exact kp k6 (own_blk_ne csa.oL k6 rfl) (blk_ne k6 csa.k3 rfl), kp k7 h.nL (blk_ne k7 csa.k3 rfl), kp k8 (own_blk_ne csa.oL k8 rfl) (blk_ne k8 csa.k3 rfl), kp kb (own_blk_ne csa.oL kb rfl) (blk_ne kb csa.k3 rfl),
    h.g6, h.g7, h.g8, h.nN, dis_app dc h.nL k7.lt, h.nR, (mkb.own csa.oL gc).upd ud k3c⟩
end
theorem below_v (p : Nat × Nat) (w : World) : Calls Try.prog 72 #[.agg #[.int .u64 p.1, .int .i64 p.2]] w
    (Gives (fun v w' => ∃ b, v = .func (.func 93) #[] #[.pointer (some ⟨b, 0, none⟩)] ∧ Blk w' b 120 [.int .u64 p.1, .int .i64 p.2] ∧ w.heap.size ≤ b) w) := by
  refine V_enter (vs := [_]) Try.func72 rfl Try.ntmps72 (Nat.le_of_ble_eq_true rfl) ?_
  repeat (first | refine Vx ?_ | (apply Ops_q; (case hon => exact Va); (case hd => rfl); (case hq => exact YlA)) | refine Vr ?_ | refine Vt ?_ | refine Vf ?_ | refine Vm ?_ | refine Ve ?_ | refine Vo ?_ | refine Vz ?_ | refine Vn ?_)
  (refine Ops_box (by exact Va) rfl rfl rfl ?_; intro w1 b1 n_b1; have k_b1 := n_b1.blk)
  repeat (first | refine Vx ?_ | (apply Ops_q; (case hon => exact Va); (case hd => rfl); (case hq => exact YlA)) | refine Vr ?_ | refine Vt ?_ | refine Vf ?_ | refine Vm ?_ | refine Ve ?_ | refine Vo ?_ | refine Vz ?_ | refine Vn ?_)
  refine ret1 (by first | exact .inl rfl | exact .inr rfl) rfl rfl ?_
  exact Gives_mk (fun w' hw => ⟨b1, rfl, k_b1.ext hw, n_b1.ge⟩) n_b1.ext
/-- What compress returns. -/
def CfR (g : Nat → Int) (w0 : World) (r : Value) (w' : World) : Prop := ∃ (vN vL : Value) (N : List Nd) (L : List Int), r = .agg #[vN, vL] ∧ IsCf g N L ∧
  Own w' w0.heap.size 73 4 vN (N.map Nd.cells) ∧ Own w' w0.heap.size 3 1 vL (L.map ic)
end Go.Proofs.Ytjpnaofoeeegeaa


/-
  Layer 6 (trie): the walks of walk, Under, All, Lookup, Of.
  Conditions: addresses are below 2^32.
-/
namespace Go.Proofs.Ytjpnaofoeeegeaa
open Go.RowKit

theorem last_kid {x k : Nat} (hx : top x k = x) (hk : k < 32) (hl : x < 4294967296) : top (x + (2 ^ (32 - k) - 1)) (k + 1) = kidA x k 1 := by
  have h2 : x = x / 2 ^ (32 - k) * 2 ^ (32 - k) := by unfold top at hx; exact hx.symm
  unfold kidA top
  rw [show 32 - (k + 1) = 31 - k by omega, pow_up hk] at *
  have hp : 0 < 2 ^ (31 - k) := Nat.two_pow_pos _
  generalize 2 ^ (31 - k) = p at *
  generalize x / (2 * p) = q at *
  subst h2
  have e : q * (2 * p) + (2 * p - 1) = (p - 1) + (2 * q + 1) * p := by
    rw [Nat.add_mul, Nat.mul_assoc 2 q p, Nat.mul_left_comm 2 q p]; omega
  rw [e, Nat.add_mul_div_right _ _ hp, Nat.div_eq_of_lt (by omega), Nat.zero_add, Nat.add_mul, Nat.mul_assoc 2 q p, Nat.mul_left_comm 2 q p]
/-- The entries below a prefix, in preorder. -/
def sub (E : Nat → Nat → Option Int) : Nat → Nat → Nat → List En
  | 0, x, k => adds ⟨x, k⟩ (E x k)
  | f + 1, x, k => adds ⟨x, k⟩ (E x k) ++ (sub E f (kidA x k 0) (k + 1) ++ sub E f (kidA x k 1) (k + 1))
end Go.Proofs.Ytjpnaofoeeegeaa


/-
  Layer 6 (trie): the walks of Lookup and Of.
  Conditions: addresses are below 2^32.
-/
namespace Go.Proofs.Ytjpnaofoeeegeaa
open Go.RowKit

def En.zero : En := ⟨⟨0, 0⟩, 0⟩
def lookE (E : Nat → Nat → Option Int) (a : Nat) : Option En := (pre E a 33).getLast?
theorem lookup_v {base b0 : Nat} {N : Nat → Nat → Option Nat} {E : Nat → Nat → Option Int} {cnt : Int} (a : Nat) (w : World) (h : TrieM w base b0 N E cnt) (ha : a < 4294967296) :
    Calls Try.prog 15 #[.pointer (some ⟨b0, 0, none⟩), .int .u32 a] w (Ret (.tuple #[((lookE E a).getD En.zero).val, .bool (lookE E a).isSome]) w) := by
  have hab : aboveL E ⟨a, 32⟩ = pre E a 33 := by
    rw [aboveL, if_pos (Pf.valid_iff.2 ⟨by simp, by simp, by simpa using top_full a⟩)]; rfl
  have hpl := pre_len E a 33
  refine V_enter (vs := [_, _]) Try.func15 rfl Try.ntmps15 (Nat.le_of_ble_eq_true rfl) ?_
  repeat (first | refine Vx ?_ | (apply Ops_q; (case hon => exact Va); (case hd => rfl); (case hq => exact YlA)) | refine Vr ?_ | refine Vt ?_ | refine Vf ?_ | refine Vm ?_ | refine Ve ?_ | refine Vo ?_ | refine Vz ?_ | refine Vn ?_)
  (refine Ops_alloc (by exact Va) rfl ?_; intro w1 b1 n_b1; have k_b1 := n_b1.blk)
  repeat (first | refine Vx ?_ | (apply Ops_q; (case hon => exact Va); (case hd => rfl); (case hq => exact YlA)) | refine Vr ?_ | refine Vt ?_ | refine Vf ?_ | refine Vm ?_ | refine Ve ?_ | refine Vo ?_ | refine Vz ?_ | refine Vn ?_)
  (refine Ops_callR (by exact Va) rfl rfl (fun w_ e_ => above_v ⟨a, 32⟩ w_ (h.ext (n_b1.ext.trans e_)) ha) ?_; intro v w2 w0_ e0_ e1_ r_v; have e_w2 := e0_.trans e1_; have b_v := e0_.size; clear e0_ e1_)
  rw [hab] at r_v
  have e2 := n_b1.ext.trans e_w2
  have g1 := n_b1.ge
  obtain ⟨ao, c, rfl, hA⟩ := r_v.slice
  rw [List.length_map]
  replace k_b1 := k_b1.ext e_w2
  clear r_v
  generalize hL : pre E a 33 = L at *
  repeat (first | refine Vx ?_ | (apply Ops_q; (case hon => exact Va); (case hd => rfl); (case hq => exact YlA)) | refine Vr ?_ | refine Vt ?_ | refine Vf ?_ | refine Vm ?_ | refine Ve ?_ | refine Vo ?_ | refine Vz ?_ | refine Vn ?_)
  refine V_cond rfl (fun hg => ?_) (fun hg => ?_)
  · have hnil : L = [] := List.length_eq_zero_iff.1 (by have := of_decide_eq_true hg; omega)
    have hlk : lookE E a = none := by rw [lookE, hL, hnil]; rfl
    repeat (first | refine Vx ?_ | (apply Ops_q; (case hon => exact Va); (case hd => rfl); (case hq => exact YlA)) | refine Vr ?_ | refine Vt ?_ | refine Vf ?_ | refine Vm ?_ | refine Ve ?_ | refine Vo ?_ | refine Vz ?_ | refine Vn ?_)
    (refine Ops_store (by exact Va) rfl rfl (by assumption) (by first | rfl | exact OneAll.h) ?_; intro w3 u_w3; have k_b1 := u_w3.blk)
    have e3 := u_w3.below e2 g1
    repeat (first | refine Vx ?_ | (apply Ops_q; (case hon => exact Va); (case hd => rfl); (case hq => exact YlA)) | refine Vr ?_ | refine Vt ?_ | refine Vf ?_ | refine Vm ?_ | refine Ve ?_ | refine Vo ?_ | refine Vz ?_ | refine Vn ?_)
    refine retR2 (by first | exact .inl rfl | exact .inr rfl) rfl (res_agg rfl k_b1.cells) rfl ?_
    exact Ret_mk (by rw [hlk]; rfl) e3
  · have hpos : 0 < L.length := by have := of_decide_eq_false hg; omega
    obtain ⟨x, hx⟩ : ∃ x, L[L.length - 1]? = some x := ⟨_, List.getElem?_eq_getElem (by omega)⟩
    have hlk : lookE E a = some x := by rw [lookE, hL, List.getLast?_eq_getElem?, hx]
    obtain ⟨ad, rfl, hc⟩ := hA (L.length - 1) x.cells (by rw [List.getElem?_map, hx]; rfl)
    obtain ⟨m, hm⟩ : ∃ m : Nat, ((L.length : Int) - 1) = m := ⟨L.length - 1, by omega⟩
    have hm' : L.length - 1 = m := by omega
    rw [hm'] at hc
    have hc2 : Cells w2 (ad.add (m * 3)) [.int .u32 x.p.a, .int .i64 x.p.n, .int .i64 x.v] := hc
    clear hc
    repeat (first | refine Vx ?_ | (apply Ops_q; (case hon => exact Va); (case hd => rfl); (case hq => exact YlA)) | refine Vr ?_ | refine Vt ?_ | refine Vf ?_ | refine Vm ?_ | refine Ve ?_ | refine Vo ?_ | refine Vz ?_ | refine Vn ?_)
    rw [hm]
    (apply Ops_q; (case hon => (exact Va)); (case hd => rfl); (case hq => exact Yl_indexS (j := m) rfl rfl (by omega)))
    repeat (first | refine Vx ?_ | (apply Ops_q; (case hon => exact Va); (case hd => rfl); (case hq => exact YlA)) | refine Vr ?_ | refine Vt ?_ | refine Vf ?_ | refine Vm ?_ | refine Ve ?_ | refine Vo ?_ | refine Vz ?_ | refine Vn ?_)
    (refine Ops_store (by exact Va) rfl rfl (by assumption) (by first | rfl | exact OneAll.h) ?_; intro w3 u_w3; have k_b1 := u_w3.blk)
    have e3 := u_w3.below e2 g1
    repeat (first | refine Vx ?_ | (apply Ops_q; (case hon => exact Va); (case hd => rfl); (case hq => exact YlA)) | refine Vr ?_ | refine Vt ?_ | refine Vf ?_ | refine Vm ?_ | refine Ve ?_ | refine Vo ?_ | refine Vz ?_ | refine Vn ?_)
    refine retR2 (by first | exact .inl rfl | exact .inr rfl) rfl (res_agg rfl k_b1.cells) rfl ?_
    exact Ret_mk (by rw [hlk]; rfl) e3

/-! ### Of -/
/-- Entries and their number, after one more is put. -/
abbrev St := (Nat → Nat → Option Int) × Int
def St.zero : St := (fun _ _ => none, 0)
def putS (s : St) (e : En) : St := (setE s.1 e.p e.v, if (at_ s.1 e.p).isNone then s.2 + 1 else s.2)
def ofS (L : List En) : St := L.foldl putS St.zero
theorem ofS_snoc {L : List En} {k : Nat} {x : En} (hx : L[k]? = some x) : ofS (L.take (k + 1)) = putS (ofS (L.take k)) x := by
  unfold ofS
  rw [List.take_add_one, hx, Option.toList_some, List.foldl_append]; rfl
theorem ofS_cnt : ∀ (L : List En), 0 ≤ (ofS L).2 ∧ (ofS L).2 ≤ L.length := by
  intro L
  have key : ∀ (L : List En) (s : St), s.2 ≤ (L.foldl putS s).2 ∧ (L.foldl putS s).2 ≤ s.2 + L.length := by
    intro L
    induction L with
    | nil => intro s; simp
    | cons x r ih =>
      intro s
      obtain ⟨h1, h2⟩ := ih (putS s x)
      have h3 : s.2 ≤ (putS s x).2 ∧ (putS s x).2 ≤ s.2 + 1 := by unfold putS; simp only; split <;> omega
      simp only [List.foldl_cons, List.length_cons]
      omega
  have := key L St.zero
  unfold ofS
  simp only [St.zero] at this ⊢
  omega
def allOk (L : List En) : Bool := L.all (fun e => e.p.valid)
/-- The elements of a list of entries, in memory. -/
def Ens (w : World) (ao : Option Addr) (L : List En) : Prop := Arr w 3 ao (L.map En.cells)
theorem Ens.ext {w w' : World} {ao : Option Addr} {L : List En} (h : Ens w ao L) (he : Ext w w') : Ens w' ao L := Arr.ext h he
theorem Ens.at {w : World} {ao : Option Addr} {L : List En} (h : Ens w ao L) {k : Nat} {x : En} (hk : L[k]? = some x) : ∃ ad, ao = some ad ∧ Cells w (ad.add (k * 3)) x.cells := h k x.cells (by rw [List.getElem?_map, hk]; rfl)
def OfR (L : List En) (w0 : World) (r : Value) (w' : World) : Prop :=
  if allOk L then ∃ b N, r = .tuple #[.pointer (some ⟨b, 0, none⟩), .int .i64 0] ∧ TrieM w' w0.heap.size b N (ofS L).1 (ofS L).2 else r = .tuple #[.pointer none, .int .i64 1]
set_option maxHeartbeats 1000000 in
theorem of_entries_v (ao : Option Addr) (L : List En) (c : Nat) (w : World) (hL : Ens w ao L) (ha : ∀ e ∈ L, e.p.a < 4294967296) (hn : L.length ≤ 1000000) :
    Calls Try.prog 14 #[.slice ao L.length c] w (Gives (OfR L w) w) := by
  refine V_enter (vs := [_]) Try.func14 rfl Try.ntmps14 (Nat.le_of_ble_eq_true rfl) ?_
  repeat (first | refine Vx ?_ | (apply Ops_q; (case hon => exact Va); (case hd => rfl); (case hq => exact YlA)) | refine Vr ?_ | refine Vt ?_ | refine Vf ?_ | refine Vm ?_ | refine Ve ?_ | refine Vo ?_ | refine Vz ?_ | refine Vn ?_)
  (refine Ops_callR (by exact Va) rfl rfl (fun w_ e_ => new_v w_) ?_; intro v w1 w0_ e0_ e1_ r_v; have e_w1 := e0_.trans e1_; have b_v := e0_.size; clear e0_ e1_)
  obtain ⟨b, rfl, h⟩ := r_v
  have hg0 : ∀ c, Foot (N0 b) c → w.heap.size ≤ c := fun c hc => Nat.le_trans b_v (h.foot_ge hc)
  replace h : TrieM w1 w.heap.size b (N0 b) (fun _ _ => none) 0 := { h with ge := fun x k c hc => hg0 c ⟨x, k, hc⟩ }
  repeat (first | refine Vx ?_ | (apply Ops_q; (case hon => exact Va); (case hd => rfl); (case hq => exact YlA)) | refine Vr ?_ | refine Vt ?_ | refine Vf ?_ | refine Vm ?_ | refine Ve ?_ | refine Vo ?_ | refine Vz ?_ | refine Vn ?_)
  refine V_loop (fun s : Nat × (Nat → Nat → Option Nat) => [(12, .int .i64 s.1), (11, .int .i64 L.length), (10, .slice ao L.length c), (4, .pointer (some ⟨b, 0, none⟩))])
    (fun s w' => Ext w w' ∧ s.1 ≤ L.length ∧ TrieM w' w.heap.size b s.2 (ofS (L.take s.1)).1 (ofS (L.take s.1)).2 ∧ allOk (L.take s.1) = true) (fun s => L.length - s.1) (0, N0 b)
    (by repeat (first | exact trivial | refine ⟨rfl, ?_⟩)) ⟨e_w1, Nat.zero_le _, h, rfl⟩ ?_
  clear h hg0
  rintro ⟨k, N⟩ w2 ⟨e2, hk, h, hok⟩
  dsimp only at hk h hok ⊢
  repeat (first | refine Vx ?_ | (apply Ops_q; (case hon => exact Va); (case hd => rfl); (case hq => exact YlA)) | refine Vr ?_ | refine Vt ?_ | refine Vf ?_ | refine Vm ?_ | refine Ve ?_ | refine Vo ?_ | refine Vz ?_ | refine Vn ?_)
  refine V_cond rfl (fun hg => ?_) (fun hg => ?_)
  · replace hg := of_decide_eq_true hg
    have hkl : k < L.length := by omega
    obtain ⟨x, hx⟩ : ∃ x, L[k]? = some x := ⟨_, List.getElem?_eq_getElem hkl⟩
    obtain ⟨ad, rfl, hc⟩ := hL.at hx
    have hax := ha x (List.mem_of_getElem? hx)
    have hst := ofS_snoc hx
    have hcnt := ofS_cnt (L.take k)
    have hlt : (L.take k).length ≤ k := List.length_take_le _ _
    have hok' : allOk (L.take (k + 1)) = x.p.valid := by
      unfold allOk at hok ⊢
      rw [List.take_add_one, hx, Option.toList_some, List.all_append, hok]; simp
    have hmem : x ∈ L := List.mem_of_getElem? hx
    have hc2 : Cells w2 (ad.add (k * 3)) [.int .u32 x.p.a, .int .i64 x.p.n, .int .i64 x.v] := hc.ext e2
    repeat (first | refine Vx ?_ | (apply Ops_q; (case hon => exact Va); (case hd => rfl); (case hq => exact YlA)) | refine Vr ?_ | refine Vt ?_ | refine Vf ?_ | refine Vm ?_ | refine Ve ?_ | refine Vo ?_ | refine Vz ?_ | refine Vn ?_)
    (apply Ops_q; (case hon => (exact Va)); (case hd => rfl); (case hq => exact Yl_indexS (j := k) rfl rfl (by omega)))
    repeat (first | refine Vx ?_ | (apply Ops_q; (case hon => exact Va); (case hd => rfl); (case hq => exact YlA)) | refine Vr ?_ | refine Vt ?_ | refine Vf ?_ | refine Vm ?_ | refine Ve ?_ | refine Vo ?_ | refine Vz ?_ | refine Vn ?_)
    (refine Ops_alloc (by exact Va) rfl ?_; intro w3 b3 n_b3; have k_b3 := n_b3.blk)
    have e3 := e2.trans n_b3.ext
    have g3 : w.heap.size ≤ b3 := Nat.le_trans e2.size n_b3.ge
    repeat (first | refine Vx ?_ | (apply Ops_q; (case hon => exact Va); (case hd => rfl); (case hq => exact YlA)) | refine Vr ?_ | refine Vt ?_ | refine Vf ?_ | refine Vm ?_ | refine Ve ?_ | refine Vo ?_ | refine Vz ?_ | refine Vn ?_)
    (refine Ops_store (by exact Va) rfl rfl (by assumption) (by first | rfl | exact OneAll.h) ?_; intro w4 u_w4; have k_b3 := u_w4.blk)
    have e4 := u_w4.below e3 g3
    have hf3 : ∀ c, Foot N c → c ≠ b3 := fun c hc e => by have := h.lt hc; have := n_b3.ge; omega
    have h4 : TrieM w4 w.heap.size b N (ofS (L.take k)).1 (ofS (L.take k)).2 := { h with node := fun x k c hc => u_w4.keep ((h.node x k c hc).ext n_b3.ext) (hf3 c ⟨x, k, hc⟩) }
    have hpart : Cells w4 ⟨b3, 0, none⟩ [.int .u32 x.p.a, .int .i64 x.p.n] := k_b3.part 0 2
    repeat (first | refine Vx ?_ | (apply Ops_q; (case hon => exact Va); (case hd => rfl); (case hq => exact YlA)) | refine Vr ?_ | refine Vt ?_ | refine Vf ?_ | refine Vm ?_ | refine Ve ?_ | refine Vo ?_ | refine Vz ?_ | refine Vn ?_)
    cases hv : x.p.valid with
    | false =>
      have hno : allOk L = false := by
        cases hA : allOk L with
        | false => rfl
        | true =>
          have := List.all_eq_true.1 hA x hmem
          rw [hv] at this; cases this
      (apply Ops_q; (case hon => (exact Va)); (case hd => rfl); (case hq => exact Yl_call rfl (fun w_ e_ => put_bad b x.p x.v w_ hax hv)))
      repeat (first | refine Vx ?_ | (apply Ops_q; (case hon => exact Va); (case hd => rfl); (case hq => exact YlA)) | refine Vr ?_ | refine Vt ?_ | refine Vf ?_ | refine Vm ?_ | refine Ve ?_ | refine Vo ?_ | refine Vz ?_ | refine Vn ?_)
      refine ret2 (by first | exact .inl rfl | exact .inr rfl) rfl rfl rfl ?_
      exact Gives_mk (fun w' he => by rw [OfR, hno]; rfl) e4
    | true =>
      refine Ops_callM (S := Foot N) (R := fun w_ => PutR w.heap.size b N (ofS (L.take k)).1 (ofS (L.take k)).2 x.p x.v w_) (by exact Va) rfl rfl (fun w_ e_ => put_v x.p x.v w_ (h4.ext e_) hax hv (Nat.le_trans e4.size e_.size) (by omega) (by omega)) ?_
      intro r w5 w0_ e0 m5 hR
      obtain ⟨rfl, N', h5, _⟩ := hR
      have e5 : Ext w w5 := Mod.ext_of (e4.trans e0) m5 (fun c hc => h4.foot_ge hc)
      repeat (first | refine Vx ?_ | (apply Ops_q; (case hon => exact Va); (case hd => rfl); (case hq => exact YlA)) | refine Vr ?_ | refine Vt ?_ | refine Vf ?_ | refine Vm ?_ | refine Ve ?_ | refine Vo ?_ | refine Vz ?_ | refine Vn ?_)
      refine ⟨(k + 1, N'), (by repeat (first | exact trivial | refine ⟨rfl, ?_⟩)), ⟨e5, hkl, ?_, by rw [hok', hv]⟩, by simp only; omega⟩
      dsimp only
      rw [hst]; exact h5
  · replace hg := of_decide_eq_false hg
    obtain rfl : k = L.length := by omega
    rw [List.take_length] at h hok
    repeat (first | refine Vx ?_ | (apply Ops_q; (case hon => exact Va); (case hd => rfl); (case hq => exact YlA)) | refine Vr ?_ | refine Vt ?_ | refine Vf ?_ | refine Vm ?_ | refine Ve ?_ | refine Vo ?_ | refine Vz ?_ | refine Vn ?_)
    refine ret2 (by first | exact .inl rfl | exact .inr rfl) rfl rfl rfl ?_
    refine Gives_mk (fun w' he => ?_) e2
    rw [OfR, if_pos hok]
    exact ⟨b, N, rfl, h.ext he⟩
end Go.Proofs.Ytjpnaofoeeegeaa


/-
  Layer 6 (trie): the reference's prefixes: Valid, Make, Contains; the chapter's example.
  Conditions: addresses are below 2^32.
-/
namespace Go.Proofs.Ytjpnaofoeeegeaa
open Go.RowKit

instance eqPf (a b n m : Int) : TEqv Try.prog 40 (.agg #[.int .u32 a, .int .i64 n]) (.agg #[.int .u32 b, .int .i64 m]) (decide (a = b ∧ n = m)) := ⟨fun w => by
  have u3 := Try.underlying3
  have a3 := Try.isAgg3
  have u4 := Try.underlying24
  have a4 : ∀ w, (isAgg 24).run Try.prog w = .ok false w := fun _ => by kernel_rfl
  have hS : Try.prog.underlying 40 = some (.struct (Try.prog.fieldsOf 40)) := by kernel_rfl
  show (Op.equalIn (9999 + 1) 40 _ _).run _ _ = _
  rw [run_equalIn_agg w 9999 40 _ _ hS (by kernel_rfl)]
  simp only [Program.fieldsOf, Try.underlying40]
  go_simp
  by_cases h1 : a = b <;> by_cases h2 : n = m <;> simp [h1, h2], by kernel_rfl⟩
instance eqEn (a b n m x y : Int) : TEqv Try.prog 42 (.agg #[.int .u32 a, .int .i64 n, .int .i64 x]) (.agg #[.int .u32 b, .int .i64 m, .int .i64 y]) (decide (a = b ∧ n = m ∧ x = y)) := ⟨fun w => by
  have u3 := Try.underlying3
  have a3 := Try.isAgg3
  have u4 := Try.underlying24
  have a4 : ∀ w, (isAgg 24).run Try.prog w = .ok false w := fun _ => by kernel_rfl
  have hS : Try.prog.underlying 40 = some (.struct (Try.prog.fieldsOf 40)) := by kernel_rfl
  have hS2 : Try.prog.underlying 42 = some (.struct (Try.prog.fieldsOf 42)) := by kernel_rfl
  have a5 : ∀ w, (isAgg 40).run Try.prog w = .ok true w := fun _ => by kernel_rfl
  have z5 : Try.prog.cellsOf 40 = 2 := by kernel_rfl
  have hin : ∀ w, (Op.equalIn 9999 40 (.agg #[.int .u32 a, .int .i64 n]) (.agg #[.int .u32 b, .int .i64 m])).run Try.prog w = .ok (decide (a = b ∧ n = m)) w := fun w => by
    show (Op.equalIn (9998 + 1) 40 _ _).run _ _ = _
    rw [run_equalIn_agg w 9998 40 _ _ hS (by kernel_rfl)]
    simp only [Program.fieldsOf, Try.underlying40]
    go_simp
    by_cases h1 : a = b <;> by_cases h2 : n = m <;> simp [h1, h2]
  show (Op.equalIn (9999 + 1) 42 _ _).run _ _ = _
  rw [run_equalIn_agg w 9999 42 _ _ hS2 (by kernel_rfl)]
  simp only [Program.fieldsOf, Try.underlying42]
  go_simp
  by_cases h1 : a = b <;> by_cases h2 : n = m <;> by_cases h3 : x = y <;> simp [h1, h2, h3], by kernel_rfl⟩
/-- The address lies in the prefix. -/
def Pf.has (p : Pf) (a : Nat) : Bool := p.valid && decide (top a p.n.toNat = p.a)
end Go.Proofs.Ytjpnaofoeeegeaa


/-
  Stride tables (layer 8): counts of bits; comparisons of tables; the search for a value below -1.
  Conditions: the lists are not too long for a machine.
-/
namespace Go.Proofs.Ytjpnaofoeeegeaa
open Go.RowKit

/-! ### Bits -/
theorem and_one64 (x n : Nat) (hx : x < 18446744073709551616) : bits .and .u64 ((x : Int) / 2 ^ ((n : Nat) : Int).toNat) 1 = ((x / 2 ^ n % 2 : Nat) : Int) := by
  have h : x / 2 ^ n < 18446744073709551616 := Nat.lt_of_le_of_lt (Nat.div_le_self _ _) hx
  rw [Int.toNat_natCast, cast_div, show (1 : Int) = ((1 : Nat) : Int) from rfl, u64_and_nat _ _ h (by omega), nat_mask1]
theorem rank_v (x k : Nat) (w : World) (hx : x < 18446744073709551616) (hk : k ≤ 64) : Calls Try.prog 45 #[.int .u64 x, .int .i64 k] w (Ret (.int .i64 (rankN x k)) w) := by
  have hcl : ∀ w, Calls Try.prog 83 #[.int .i64 k, .int .i64 64] w (Ret (.int .i64 k) w) := fun w => by
    have e : min (max (k : Int) 0) 64 = (k : Int) := by omega
    exact (clamp_any k 64 w).mono fun e' w' ⟨h1, h2⟩ => ⟨by rw [h1, e], h2 ▸ Ext.refl _⟩
  refine V_enter (vs := [_, _]) Try.func45 rfl Try.ntmps45 (Nat.le_of_ble_eq_true rfl) ?_
  repeat (first | refine Vx ?_ | (apply Ops_q; (case hon => exact Va); (case hd => rfl); (case hq => exact YlA)) | refine Vr ?_ | refine Vt ?_ | refine Vf ?_ | refine Vm ?_ | refine Ve ?_ | refine Vo ?_ | refine Vz ?_ | refine Vn ?_)
  (apply Ops_q; (case hon => (exact Va)); (case hd => rfl); (case hq => exact Yl_call rfl (fun w_ e_ => hcl w_)))
  repeat (first | refine Vx ?_ | (apply Ops_q; (case hon => exact Va); (case hd => rfl); (case hq => exact YlA)) | refine Vr ?_ | refine Vt ?_ | refine Vf ?_ | refine Vm ?_ | refine Ve ?_ | refine Vo ?_ | refine Vz ?_ | refine Vn ?_)
  refine V_loop (fun j : Nat => [(9, .int .i64 j), (8, .int .i64 k), (5, .int .i64 (rankN x j)), (0, .int .u64 x)]) (fun j w' => w' = w ∧ j ≤ k) (fun j => k - j) 0 (by repeat (first | exact trivial | refine ⟨rfl, ?_⟩)) ⟨rfl, Nat.zero_le _⟩ ?_
  rintro j w1 ⟨rfl, hj⟩
  repeat (first | refine Vx ?_ | (apply Ops_q; (case hon => exact Va); (case hd => rfl); (case hq => exact YlA)) | refine Vr ?_ | refine Vt ?_ | refine Vf ?_ | refine Vm ?_ | refine Ve ?_ | refine Vo ?_ | refine Vz ?_ | refine Vn ?_)
  refine V_cond rfl (fun hg => ?_) (fun hg => ?_)
  · have hjk : j < k := by have := of_decide_eq_true hg; omega
    clear hg
    have hb := and_one64 x j hx
    have hr := rankN_le x j
    have h2 : x / 2 ^ j % 2 < 2 := Nat.mod_lt _ (by omega)
    have hin : InK .i64 (bits .and .u64 ((x : Int) / 2 ^ ((j : Nat) : Int).toNat) 1) := by rw [hb]; simp only [InK]; omega
    have hin2 : InK .i64 ((rankN x j : Int) + bits .and .u64 ((x : Int) / 2 ^ ((j : Nat) : Int).toNat) 1) := by rw [hb]; simp only [InK]; omega
    have he : (rankN x j : Int) + bits .and .u64 ((x : Int) / 2 ^ ((j : Nat) : Int).toNat) 1 = ((rankN x (j + 1) : Nat) : Int) := by rw [hb, rankN, Int.natCast_add]
    repeat (first | refine Vx ?_ | (apply Ops_q; (case hon => exact Va); (case hd => rfl); (case hq => exact YlA)) | refine Vr ?_ | refine Vt ?_ | refine Vf ?_ | refine Vm ?_ | refine Ve ?_ | refine Vo ?_ | refine Vz ?_ | refine Vn ?_)
    rw [he]
    refine ⟨j + 1, (by repeat (first | exact trivial | refine ⟨rfl, ?_⟩)), ⟨rfl, hjk⟩, by omega⟩
  · obtain rfl : j = k := by have := of_decide_eq_false hg; omega
    repeat (first | refine Vx ?_ | (apply Ops_q; (case hon => exact Va); (case hd => rfl); (case hq => exact YlA)) | refine Vr ?_ | refine Vt ?_ | refine Vf ?_ | refine Vm ?_ | refine Ve ?_ | refine Vo ?_ | refine Vz ?_ | refine Vn ?_)
    refine ret1 (by first | exact .inl rfl | exact .inr rfl) rfl rfl ?_
    exact Ret_mk rfl (Ext.refl _)
theorem ones_v (x : Nat) (w : World) (hx : x < 18446744073709551616) : Calls Try.prog 105 #[.int .u64 x] w (Ret (.int .i64 (rankN x 64)) w) := by
  refine V_enter (vs := [_]) Try.func105 rfl Try.ntmps105 (Nat.le_of_ble_eq_true rfl) ?_
  repeat (first | refine Vx ?_ | (apply Ops_q; (case hon => exact Va); (case hd => rfl); (case hq => exact YlA)) | refine Vr ?_ | refine Vt ?_ | refine Vf ?_ | refine Vm ?_ | refine Ve ?_ | refine Vo ?_ | refine Vz ?_ | refine Vn ?_)
  (apply Ops_q; (case hon => (exact Va)); (case hd => rfl); (case hq => exact Yl_call rfl (fun w_ e_ => rank_v x 64 w_ hx (Nat.le_refl _))))
  repeat (first | refine Vx ?_ | (apply Ops_q; (case hon => exact Va); (case hd => rfl); (case hq => exact YlA)) | refine Vr ?_ | refine Vt ?_ | refine Vf ?_ | refine Vm ?_ | refine Ve ?_ | refine Vo ?_ | refine Vz ?_ | refine Vn ?_)
  refine ret1 (by first | exact .inl rfl | exact .inr rfl) rfl rfl ?_
  exact Ret_mk rfl (Ext.refl _)
theorem ronesR_v (x k : Nat) (w : World) (hx : x < 18446744073709551616) (hk : k ≤ 64) : Calls Try.prog 60 #[.int .u64 x, .int .i64 k] w (Ret (.int .i64 (rankN x k)) w) := by
  refine V_enter (vs := [_, _]) Try.func60 rfl Try.ntmps60 (Nat.le_of_ble_eq_true rfl) ?_
  repeat (first | refine Vx ?_ | (apply Ops_q; (case hon => exact Va); (case hd => rfl); (case hq => exact YlA)) | refine Vr ?_ | refine Vt ?_ | refine Vf ?_ | refine Vm ?_ | refine Ve ?_ | refine Vo ?_ | refine Vz ?_ | refine Vn ?_)
  refine V_loop (fun j : Nat => [(6, .int .i64 j), (1, .int .i64 k), (5, .int .i64 (rankN x j)), (0, .int .u64 x)]) (fun j w' => w' = w ∧ j ≤ k) (fun j => k - j) 0 (by repeat (first | exact trivial | refine ⟨rfl, ?_⟩)) ⟨rfl, Nat.zero_le _⟩ ?_
  rintro j w1 ⟨rfl, hj⟩
  repeat (first | refine Vx ?_ | (apply Ops_q; (case hon => exact Va); (case hd => rfl); (case hq => exact YlA)) | refine Vr ?_ | refine Vt ?_ | refine Vf ?_ | refine Vm ?_ | refine Ve ?_ | refine Vo ?_ | refine Vz ?_ | refine Vn ?_)
  refine V_cond rfl (fun hg => ?_) (fun hg => ?_)
  · have hjk : j < k := by have := of_decide_eq_true hg; omega
    clear hg
    have hb := and_one64 x j hx
    have hr := rankN_le x j
    have h2 : x / 2 ^ j % 2 < 2 := Nat.mod_lt _ (by omega)
    have hin : InK .i64 (bits .and .u64 ((x : Int) / 2 ^ ((j : Nat) : Int).toNat) 1) := by rw [hb]; simp only [InK]; omega
    have hin2 : InK .i64 ((rankN x j : Int) + bits .and .u64 ((x : Int) / 2 ^ ((j : Nat) : Int).toNat) 1) := by rw [hb]; simp only [InK]; omega
    have he : (rankN x j : Int) + bits .and .u64 ((x : Int) / 2 ^ ((j : Nat) : Int).toNat) 1 = ((rankN x (j + 1) : Nat) : Int) := by rw [hb, rankN, Int.natCast_add]
    repeat (first | refine Vx ?_ | (apply Ops_q; (case hon => exact Va); (case hd => rfl); (case hq => exact YlA)) | refine Vr ?_ | refine Vt ?_ | refine Vf ?_ | refine Vm ?_ | refine Ve ?_ | refine Vo ?_ | refine Vz ?_ | refine Vn ?_)
    rw [he]
    refine ⟨j + 1, (by repeat (first | exact trivial | refine ⟨rfl, ?_⟩)), ⟨rfl, hjk⟩, by omega⟩
  · obtain rfl : j = k := by have := of_decide_eq_false hg; omega
    repeat (first | refine Vx ?_ | (apply Ops_q; (case hon => exact Va); (case hd => rfl); (case hq => exact YlA)) | refine Vr ?_ | refine Vt ?_ | refine Vf ?_ | refine Vm ?_ | refine Ve ?_ | refine Vo ?_ | refine Vz ?_ | refine Vn ?_)
    refine ret1 (by first | exact .inl rfl | exact .inr rfl) rfl rfl ?_
    exact Ret_mk rfl (Ext.refl _)
/-! ### Tables in memory -/
def Nds (w : World) (ao : Option Addr) (N : List Nd) : Prop := Arr w 4 ao (N.map Nd.cells)
def Ins (w : World) (ao : Option Addr) (L : List Int) : Prop := Arr w 1 ao (L.map ic)
section
variable {w w' : World} {ao : Option Addr} {N : List Nd} {L : List Int} {k : Nat}
theorem Nds.ext (h : Nds w ao N) (he : Ext w w') : Nds w' ao N := Arr.ext h he
theorem Ins.ext (h : Ins w ao L) (he : Ext w w') : Ins w' ao L := Arr.ext h he
theorem Nds.at {x : Nd} (h : Nds w ao N) (hk : N[k]? = some x) : ∃ ad, ao = some ad ∧ Cells w (ad.add (k * 4)) [.int .u64 x.inner, .int .u64 x.leaf, .int .i64 x.nodes, .int .i64 x.first] := h k x.cells (by rw [List.getElem?_map, hk]; rfl)
theorem Ins.at {x : Int} (h : Ins w ao L) (hk : L[k]? = some x) : ∃ ad, ao = some ad ∧ w.cell? (ad.add (k * 1)) = some (.int .i64 x) := by
  obtain ⟨ad, h1, h2⟩ := h k (ic x) (by rw [List.getElem?_map, hk]; rfl)
  refine ⟨ad, h1, ?_⟩
  have := h2 0 _ rfl
  rw [add_add, Nat.add_zero] at this; exact this
end
theorem World_cell_ext {w w' : World} {a : Addr} {v : Value} (h : w.cell? a = some v) (he : Ext w w') : w'.cell? a = some v := he.cell h
instance eqNd (a b c d a' b' c' d' : Int) : TEqv Try.prog 73 (.agg #[.int .u64 a, .int .u64 b, .int .i64 c, .int .i64 d]) (.agg #[.int .u64 a', .int .u64 b', .int .i64 c', .int .i64 d']) (decide (a = a' ∧ b = b' ∧ c = c' ∧ d = d')) := ⟨fun w => by
  have u3 := Try.underlying3
  have a3 := Try.isAgg3
  have u4 := Try.underlying53
  have a4 : ∀ w, (isAgg 53).run Try.prog w = .ok false w := fun _ => by kernel_rfl
  have hS : Try.prog.underlying 73 = some (.struct (Try.prog.fieldsOf 73)) := by kernel_rfl
  show (Op.equalIn (9999 + 1) 73 _ _).run _ _ = _
  rw [run_equalIn_agg w 9999 73 _ _ hS (by kernel_rfl)]
  simp only [Program.fieldsOf, Try.underlying73]
  go_simp
  by_cases h1 : a = a' <;> by_cases h2 : b = b' <;> by_cases h3 : c = c' <;> by_cases h4 : d = d' <;> simp [h1, h2, h3, h4], by kernel_rfl⟩
theorem eqNd_dec (x y : Nd) : decide ((x.inner : Int) = (y.inner : Int) ∧ (x.leaf : Int) = (y.leaf : Int) ∧ x.nodes = y.nodes ∧ x.first = y.first) = decide (x = y) := by
  by_cases h : x = y
  · subst h; simp
  · rw [decide_eq_false h, decide_eq_false]
    rintro ⟨h1, h2, h3, h4⟩
    refine h ?_
    obtain ⟨a, b, c, d⟩ := x
    obtain ⟨a', b', c', d'⟩ := y
    dsimp only at h1 h2 h3 h4
    rw [show a = a' by omega, show b = b' by omega, h3, h4]
theorem sameNodesR_v (ao bo : Option Addr) (A B : List Nd) (c d : Nat) (w : World) (hA : Nds w ao A) (hB : Nds w bo B) (hn : A.length ≤ 4611686018427387904) : Calls Try.prog 50 #[.slice ao A.length c, .slice bo B.length d] w (Ret (.bool (decide (A = B))) w) := by
  refine V_enter (vs := [_, _]) Try.func50 rfl Try.ntmps50 (Nat.le_of_ble_eq_true rfl) ?_
  repeat (first | refine Vx ?_ | (apply Ops_q; (case hon => exact Va); (case hd => rfl); (case hq => exact YlA)) | refine Vr ?_ | refine Vt ?_ | refine Vf ?_ | refine Vm ?_ | refine Ve ?_ | refine Vo ?_ | refine Vz ?_ | refine Vn ?_)
  refine V_cond rfl (fun h1 => ?_) (fun h1 => ?_)
  · have hne : A.length ≠ B.length := fun e => by
      have : ¬((A.length : Int) = (B.length : Int)) := by simpa using h1
      omega
    repeat (first | refine Vx ?_ | (apply Ops_q; (case hon => exact Va); (case hd => rfl); (case hq => exact YlA)) | refine Vr ?_ | refine Vt ?_ | refine Vf ?_ | refine Vm ?_ | refine Ve ?_ | refine Vo ?_ | refine Vz ?_ | refine Vn ?_)
    refine ret1 (by first | exact .inl rfl | exact .inr rfl) rfl rfl ?_
    exact Ret_mk (by rw [decide_eq_false (fun e => hne (by rw [e]))]) (Ext.refl _)
  have hlen : A.length = B.length := by
    have : (A.length : Int) = (B.length : Int) := by simpa using h1
    omega
  clear h1
  repeat (first | refine Vx ?_ | (apply Ops_q; (case hon => exact Va); (case hd => rfl); (case hq => exact YlA)) | refine Vr ?_ | refine Vt ?_ | refine Vf ?_ | refine Vm ?_ | refine Ve ?_ | refine Vo ?_ | refine Vz ?_ | refine Vn ?_)
  refine V_loop (fun k : Nat => [(14, .int .i64 k), (13, .int .i64 A.length), (12, .slice ao A.length c), (1, .slice bo B.length d)]) (fun k w' => Ext w w' ∧ k ≤ A.length ∧ ∀ j, j < k → A[j]? = B[j]?) (fun k => A.length - k) 0 (by repeat (first | exact trivial | refine ⟨rfl, ?_⟩)) ⟨Ext.refl _, Nat.zero_le _, fun j h => by omega⟩ ?_
  rintro k w1 ⟨e1, hk, hs⟩
  repeat (first | refine Vx ?_ | (apply Ops_q; (case hon => exact Va); (case hd => rfl); (case hq => exact YlA)) | refine Vr ?_ | refine Vt ?_ | refine Vf ?_ | refine Vm ?_ | refine Ve ?_ | refine Vo ?_ | refine Vz ?_ | refine Vn ?_)
  refine V_cond rfl (fun hg => ?_) (fun hg => ?_)
  · replace hg := of_decide_eq_true hg
    have hkl : k < A.length := by omega
    clear hg
    obtain ⟨x, hx⟩ : ∃ x, A[k]? = some x := ⟨_, List.getElem?_eq_getElem hkl⟩
    obtain ⟨y, hy⟩ : ∃ y, B[k]? = some y := ⟨_, List.getElem?_eq_getElem (by omega)⟩
    obtain ⟨ad, rfl, hc⟩ := hA.at hx
    obtain ⟨bd, rfl, hd⟩ := hB.at hy
    have hkb : k < B.length := by omega
    have hc1 : Cells w1 (ad.add (k * 4)) [.int .u64 x.inner, .int .u64 x.leaf, .int .i64 x.nodes, .int .i64 x.first] := hc.ext e1
    repeat (first | refine Vx ?_ | (apply Ops_q; (case hon => exact Va); (case hd => rfl); (case hq => exact YlA)) | refine Vr ?_ | refine Vt ?_ | refine Vf ?_ | refine Vm ?_ | refine Ve ?_ | refine Vo ?_ | refine Vz ?_ | refine Vn ?_)
    (apply Ops_q; (case hon => (exact Va)); (case hd => rfl); (case hq => exact Yl_indexS (j := k) rfl rfl (by omega)))
    repeat (first | refine Vx ?_ | (apply Ops_q; (case hon => exact Va); (case hd => rfl); (case hq => exact YlA)) | refine Vr ?_ | refine Vt ?_ | refine Vf ?_ | refine Vm ?_ | refine Ve ?_ | refine Vo ?_ | refine Vz ?_ | refine Vn ?_)
    (refine Ops_alloc (by exact Va) rfl ?_; intro w2 b2 n_b2; have k_b2 := n_b2.blk)
    repeat (first | refine Vx ?_ | (apply Ops_q; (case hon => exact Va); (case hd => rfl); (case hq => exact YlA)) | refine Vr ?_ | refine Vt ?_ | refine Vf ?_ | refine Vm ?_ | refine Ve ?_ | refine Vo ?_ | refine Vz ?_ | refine Vn ?_)
    (refine Ops_store (by exact Va) rfl rfl (by assumption) (by first | rfl | exact OneAll.h) ?_; intro w3 u_w3; have k_b2 := u_w3.blk)
    have e3 := u_w3.below (e1.trans n_b2.ext) (Nat.le_trans e1.size n_b2.ge)
    have hd1 : Cells w3 (bd.add (k * 4)) [.int .u64 y.inner, .int .u64 y.leaf, .int .i64 y.nodes, .int .i64 y.first] := hd.ext e3
    repeat (first | refine Vx ?_ | (apply Ops_q; (case hon => exact Va); (case hd => rfl); (case hq => exact YlA)) | refine Vr ?_ | refine Vt ?_ | refine Vf ?_ | refine Vm ?_ | refine Ve ?_ | refine Vo ?_ | refine Vz ?_ | refine Vn ?_)
    (apply Ops_q; (case hon => (exact Va)); (case hd => rfl); (case hq => exact Yl_indexS (j := k) rfl rfl (by omega)))
    repeat (first | refine Vx ?_ | (apply Ops_q; (case hon => exact Va); (case hd => rfl); (case hq => exact YlA)) | refine Vr ?_ | refine Vt ?_ | refine Vf ?_ | refine Vm ?_ | refine Ve ?_ | refine Vo ?_ | refine Vz ?_ | refine Vn ?_)
    rw [eqNd_dec]
    refine V_cond rfl (fun h2 => ?_) (fun h2 => ?_)
    · have hne : x ≠ y := by simpa using h2
      repeat (first | refine Vx ?_ | (apply Ops_q; (case hon => exact Va); (case hd => rfl); (case hq => exact YlA)) | refine Vr ?_ | refine Vt ?_ | refine Vf ?_ | refine Vm ?_ | refine Ve ?_ | refine Vo ?_ | refine Vz ?_ | refine Vn ?_)
      refine ret1 (by first | exact .inl rfl | exact .inr rfl) rfl rfl ?_
      exact Ret_mk (by rw [decide_eq_false (fun e => hne (by rw [e, hy] at hx; exact (Option.some.inj hx).symm))]) e3
    · have heq : x = y := by simpa using h2
      repeat (first | refine Vx ?_ | (apply Ops_q; (case hon => exact Va); (case hd => rfl); (case hq => exact YlA)) | refine Vr ?_ | refine Vt ?_ | refine Vf ?_ | refine Vm ?_ | refine Ve ?_ | refine Vo ?_ | refine Vz ?_ | refine Vn ?_)
      refine ⟨k + 1, (by repeat (first | exact trivial | refine ⟨rfl, ?_⟩)), ⟨e3, hkl, fun j hj => ?_⟩, by omega⟩
      rcases Nat.lt_or_ge j k with c | c
      · exact hs j c
      · rw [show j = k by omega, hx, hy, heq]
  · replace hg := of_decide_eq_false hg
    obtain rfl : k = A.length := by omega
    repeat (first | refine Vx ?_ | (apply Ops_q; (case hon => exact Va); (case hd => rfl); (case hq => exact YlA)) | refine Vr ?_ | refine Vt ?_ | refine Vf ?_ | refine Vm ?_ | refine Ve ?_ | refine Vo ?_ | refine Vz ?_ | refine Vn ?_)
    refine ret1 (by first | exact .inl rfl | exact .inr rfl) rfl rfl ?_
    refine Ret_mk ?_ e1
    rw [decide_eq_true]
    refine List.ext_getElem? fun j => ?_
    rcases Nat.lt_or_ge j A.length with c | c
    · exact hs j c
    · rw [List.getElem?_eq_none c, List.getElem?_eq_none (by omega)]
theorem equalNodes_v (ao bo : Option Addr) (A B : List Nd) (c d : Nat) (w : World) (hA : Nds w ao A) (hB : Nds w bo B) (hn : A.length ≤ 4611686018427387904) : Calls Try.prog 108 #[.slice ao A.length c, .slice bo B.length d] w (Ret (.bool (decide (A = B))) w) := by
  refine V_enter (vs := [_, _]) Try.func108 rfl Try.ntmps108 (Nat.le_of_ble_eq_true rfl) ?_
  repeat (first | refine Vx ?_ | (apply Ops_q; (case hon => exact Va); (case hd => rfl); (case hq => exact YlA)) | refine Vr ?_ | refine Vt ?_ | refine Vf ?_ | refine Vm ?_ | refine Ve ?_ | refine Vo ?_ | refine Vz ?_ | refine Vn ?_)
  refine V_cond rfl (fun h1 => ?_) (fun h1 => ?_)
  · have hne : A.length ≠ B.length := fun e => by
      have : ¬((A.length : Int) = (B.length : Int)) := by simpa using h1
      omega
    repeat (first | refine Vx ?_ | (apply Ops_q; (case hon => exact Va); (case hd => rfl); (case hq => exact YlA)) | refine Vr ?_ | refine Vt ?_ | refine Vf ?_ | refine Vm ?_ | refine Ve ?_ | refine Vo ?_ | refine Vz ?_ | refine Vn ?_)
    refine ret1 (by first | exact .inl rfl | exact .inr rfl) rfl rfl ?_
    exact Ret_mk (by rw [decide_eq_false (fun e => hne (by rw [e]))]) (Ext.refl _)
  have hlen : A.length = B.length := by
    have : (A.length : Int) = (B.length : Int) := by simpa using h1
    omega
  clear h1
  repeat (first | refine Vx ?_ | (apply Ops_q; (case hon => exact Va); (case hd => rfl); (case hq => exact YlA)) | refine Vr ?_ | refine Vt ?_ | refine Vf ?_ | refine Vm ?_ | refine Ve ?_ | refine Vo ?_ | refine Vz ?_ | refine Vn ?_)
  refine V_loop (fun k : Nat => [(13, .int .i64 k), (12, .int .i64 A.length), (0, .slice ao A.length c), (1, .slice bo B.length d)]) (fun k w' => Ext w w' ∧ k ≤ A.length ∧ ∀ j, j < k → A[j]? = B[j]?) (fun k => A.length - k) 0 (by repeat (first | exact trivial | refine ⟨rfl, ?_⟩)) ⟨Ext.refl _, Nat.zero_le _, fun j h => by omega⟩ ?_
  rintro k w1 ⟨e1, hk, hs⟩
  repeat (first | refine Vx ?_ | (apply Ops_q; (case hon => exact Va); (case hd => rfl); (case hq => exact YlA)) | refine Vr ?_ | refine Vt ?_ | refine Vf ?_ | refine Vm ?_ | refine Ve ?_ | refine Vo ?_ | refine Vz ?_ | refine Vn ?_)
  refine V_cond rfl (fun hg => ?_) (fun hg => ?_)
  · replace hg := of_decide_eq_true hg
    have hkl : k < A.length := by omega
    clear hg
    obtain ⟨x, hx⟩ : ∃ x, A[k]? = some x := ⟨_, List.getElem?_eq_getElem hkl⟩
    obtain ⟨y, hy⟩ : ∃ y, B[k]? = some y := ⟨_, List.getElem?_eq_getElem (by omega)⟩
    obtain ⟨ad, rfl, hc⟩ := hA.at hx
    obtain ⟨bd, rfl, hd⟩ := hB.at hy
    have hkb : k < B.length := by omega
    have hc1 : Cells w1 (ad.add (k * 4)) [.int .u64 x.inner, .int .u64 x.leaf, .int .i64 x.nodes, .int .i64 x.first] := hc.ext e1
    have hd1 : Cells w1 (bd.add (k * 4)) [.int .u64 y.inner, .int .u64 y.leaf, .int .i64 y.nodes, .int .i64 y.first] := hd.ext e1
    repeat (first | refine Vx ?_ | (apply Ops_q; (case hon => exact Va); (case hd => rfl); (case hq => exact YlA)) | refine Vr ?_ | refine Vt ?_ | refine Vf ?_ | refine Vm ?_ | refine Ve ?_ | refine Vo ?_ | refine Vz ?_ | refine Vn ?_)
    (apply Ops_q; (case hon => (exact Va)); (case hd => rfl); (case hq => exact Yl_indexS (j := k) rfl rfl (by omega)))
    repeat (first | refine Vx ?_ | (apply Ops_q; (case hon => exact Va); (case hd => rfl); (case hq => exact YlA)) | refine Vr ?_ | refine Vt ?_ | refine Vf ?_ | refine Vm ?_ | refine Ve ?_ | refine Vo ?_ | refine Vz ?_ | refine Vn ?_)
    (apply Ops_q; (case hon => (exact Va)); (case hd => rfl); (case hq => exact Yl_indexS (j := k) rfl rfl (by omega)))
    repeat (first | refine Vx ?_ | (apply Ops_q; (case hon => exact Va); (case hd => rfl); (case hq => exact YlA)) | refine Vr ?_ | refine Vt ?_ | refine Vf ?_ | refine Vm ?_ | refine Ve ?_ | refine Vo ?_ | refine Vz ?_ | refine Vn ?_)
    rw [eqNd_dec]
    refine V_cond rfl (fun h2 => ?_) (fun h2 => ?_)
    · have hne : x ≠ y := by simpa using h2
      repeat (first | refine Vx ?_ | (apply Ops_q; (case hon => exact Va); (case hd => rfl); (case hq => exact YlA)) | refine Vr ?_ | refine Vt ?_ | refine Vf ?_ | refine Vm ?_ | refine Ve ?_ | refine Vo ?_ | refine Vz ?_ | refine Vn ?_)
      refine ret1 (by first | exact .inl rfl | exact .inr rfl) rfl rfl ?_
      exact Ret_mk (by rw [decide_eq_false (fun e => hne (by rw [e, hy] at hx; exact (Option.some.inj hx).symm))]) e1
    · have heq : x = y := by simpa using h2
      repeat (first | refine Vx ?_ | (apply Ops_q; (case hon => exact Va); (case hd => rfl); (case hq => exact YlA)) | refine Vr ?_ | refine Vt ?_ | refine Vf ?_ | refine Vm ?_ | refine Ve ?_ | refine Vo ?_ | refine Vz ?_ | refine Vn ?_)
      refine ⟨k + 1, (by repeat (first | exact trivial | refine ⟨rfl, ?_⟩)), ⟨e1, hkl, fun j hj => ?_⟩, by omega⟩
      rcases Nat.lt_or_ge j k with c | c
      · exact hs j c
      · rw [show j = k by omega, hx, hy, heq]
  · replace hg := of_decide_eq_false hg
    obtain rfl : k = A.length := by omega
    repeat (first | refine Vx ?_ | (apply Ops_q; (case hon => exact Va); (case hd => rfl); (case hq => exact YlA)) | refine Vr ?_ | refine Vt ?_ | refine Vf ?_ | refine Vm ?_ | refine Ve ?_ | refine Vo ?_ | refine Vz ?_ | refine Vn ?_)
    refine ret1 (by first | exact .inl rfl | exact .inr rfl) rfl rfl ?_
    refine Ret_mk ?_ e1
    rw [decide_eq_true]
    refine List.ext_getElem? fun j => ?_
    rcases Nat.lt_or_ge j A.length with c | c
    · exact hs j c
    · rw [List.getElem?_eq_none c, List.getElem?_eq_none (by omega)]
theorem sameIntsR_v (ao bo : Option Addr) (A B : List Int) (c d : Nat) (w : World) (hA : Ins w ao A) (hB : Ins w bo B) (hn : A.length ≤ 4611686018427387904) : Calls Try.prog 51 #[.slice ao A.length c, .slice bo B.length d] w (Ret (.bool (decide (A = B))) w) := by
  refine V_enter (vs := [_, _]) Try.func51 rfl Try.ntmps51 (Nat.le_of_ble_eq_true rfl) ?_
  repeat (first | refine Vx ?_ | (apply Ops_q; (case hon => exact Va); (case hd => rfl); (case hq => exact YlA)) | refine Vr ?_ | refine Vt ?_ | refine Vf ?_ | refine Vm ?_ | refine Ve ?_ | refine Vo ?_ | refine Vz ?_ | refine Vn ?_)
  refine V_cond rfl (fun h1 => ?_) (fun h1 => ?_)
  · have hne : A.length ≠ B.length := fun e => by
      have : ¬((A.length : Int) = (B.length : Int)) := by simpa using h1
      omega
    repeat (first | refine Vx ?_ | (apply Ops_q; (case hon => exact Va); (case hd => rfl); (case hq => exact YlA)) | refine Vr ?_ | refine Vt ?_ | refine Vf ?_ | refine Vm ?_ | refine Ve ?_ | refine Vo ?_ | refine Vz ?_ | refine Vn ?_)
    refine ret1 (by first | exact .inl rfl | exact .inr rfl) rfl rfl ?_
    exact Ret_mk (by rw [decide_eq_false (fun e => hne (by rw [e]))]) (Ext.refl _)
  have hlen : A.length = B.length := by
    have : (A.length : Int) = (B.length : Int) := by simpa using h1
    omega
  clear h1
  repeat (first | refine Vx ?_ | (apply Ops_q; (case hon => exact Va); (case hd => rfl); (case hq => exact YlA)) | refine Vr ?_ | refine Vt ?_ | refine Vf ?_ | refine Vm ?_ | refine Ve ?_ | refine Vo ?_ | refine Vz ?_ | refine Vn ?_)
  refine V_loop (fun k : Nat => [(14, .int .i64 k), (13, .int .i64 A.length), (12, .slice ao A.length c), (1, .slice bo B.length d)]) (fun k w' => Ext w w' ∧ k ≤ A.length ∧ ∀ j, j < k → A[j]? = B[j]?) (fun k => A.length - k) 0 (by repeat (first | exact trivial | refine ⟨rfl, ?_⟩)) ⟨Ext.refl _, Nat.zero_le _, fun j h => by omega⟩ ?_
  rintro k w1 ⟨e1, hk, hs⟩
  repeat (first | refine Vx ?_ | (apply Ops_q; (case hon => exact Va); (case hd => rfl); (case hq => exact YlA)) | refine Vr ?_ | refine Vt ?_ | refine Vf ?_ | refine Vm ?_ | refine Ve ?_ | refine Vo ?_ | refine Vz ?_ | refine Vn ?_)
  refine V_cond rfl (fun hg => ?_) (fun hg => ?_)
  · replace hg := of_decide_eq_true hg
    have hkl : k < A.length := by omega
    clear hg
    obtain ⟨x, hx⟩ : ∃ x, A[k]? = some x := ⟨_, List.getElem?_eq_getElem hkl⟩
    obtain ⟨y, hy⟩ : ∃ y, B[k]? = some y := ⟨_, List.getElem?_eq_getElem (by omega)⟩
    obtain ⟨ad, rfl, hc⟩ := hA.at hx
    obtain ⟨bd, rfl, hd⟩ := hB.at hy
    have hkb : k < B.length := by omega
    have hc1 := World_cell_ext hc e1
    have hd1 := World_cell_ext hd e1
    repeat (first | refine Vx ?_ | (apply Ops_q; (case hon => exact Va); (case hd => rfl); (case hq => exact YlA)) | refine Vr ?_ | refine Vt ?_ | refine Vf ?_ | refine Vm ?_ | refine Ve ?_ | refine Vo ?_ | refine Vz ?_ | refine Vn ?_)
    (apply Ops_q; (case hon => (exact Va)); (case hd => rfl); (case hq => exact Yl_indexS (j := k) rfl rfl (by omega)))
    repeat (first | refine Vx ?_ | (apply Ops_q; (case hon => exact Va); (case hd => rfl); (case hq => exact YlA)) | refine Vr ?_ | refine Vt ?_ | refine Vf ?_ | refine Vm ?_ | refine Ve ?_ | refine Vo ?_ | refine Vz ?_ | refine Vn ?_)
    (apply Ops_q; (case hon => (exact Va)); (case hd => rfl); (case hq => exact Yl_indexS (j := k) rfl rfl (by omega)))
    repeat (first | refine Vx ?_ | (apply Ops_q; (case hon => exact Va); (case hd => rfl); (case hq => exact YlA)) | refine Vr ?_ | refine Vt ?_ | refine Vf ?_ | refine Vm ?_ | refine Ve ?_ | refine Vo ?_ | refine Vz ?_ | refine Vn ?_)
    refine V_cond rfl (fun h2 => ?_) (fun h2 => ?_)
    · have hne : x ≠ y := by simpa using h2
      repeat (first | refine Vx ?_ | (apply Ops_q; (case hon => exact Va); (case hd => rfl); (case hq => exact YlA)) | refine Vr ?_ | refine Vt ?_ | refine Vf ?_ | refine Vm ?_ | refine Ve ?_ | refine Vo ?_ | refine Vz ?_ | refine Vn ?_)
      refine ret1 (by first | exact .inl rfl | exact .inr rfl) rfl rfl ?_
      exact Ret_mk (by rw [decide_eq_false (fun e => hne (by rw [e, hy] at hx; exact (Option.some.inj hx).symm))]) e1
    · have heq : x = y := by simpa using h2
      repeat (first | refine Vx ?_ | (apply Ops_q; (case hon => exact Va); (case hd => rfl); (case hq => exact YlA)) | refine Vr ?_ | refine Vt ?_ | refine Vf ?_ | refine Vm ?_ | refine Ve ?_ | refine Vo ?_ | refine Vz ?_ | refine Vn ?_)
      refine ⟨k + 1, (by repeat (first | exact trivial | refine ⟨rfl, ?_⟩)), ⟨e1, hkl, fun j hj => ?_⟩, by omega⟩
      rcases Nat.lt_or_ge j k with c | c
      · exact hs j c
      · rw [show j = k by omega, hx, hy, heq]
  · replace hg := of_decide_eq_false hg
    obtain rfl : k = A.length := by omega
    repeat (first | refine Vx ?_ | (apply Ops_q; (case hon => exact Va); (case hd => rfl); (case hq => exact YlA)) | refine Vr ?_ | refine Vt ?_ | refine Vf ?_ | refine Vm ?_ | refine Ve ?_ | refine Vo ?_ | refine Vz ?_ | refine Vn ?_)
    refine ret1 (by first | exact .inl rfl | exact .inr rfl) rfl rfl ?_
    refine Ret_mk ?_ e1
    rw [decide_eq_true]
    refine List.ext_getElem? fun j => ?_
    rcases Nat.lt_or_ge j A.length with c | c
    · exact hs j c
    · rw [List.getElem?_eq_none c, List.getElem?_eq_none (by omega)]
theorem equalInts_v (ao bo : Option Addr) (A B : List Int) (c d : Nat) (w : World) (hA : Ins w ao A) (hB : Ins w bo B) (hn : A.length ≤ 4611686018427387904) : Calls Try.prog 109 #[.slice ao A.length c, .slice bo B.length d] w (Ret (.bool (decide (A = B))) w) := by
  refine V_enter (vs := [_, _]) Try.func109 rfl Try.ntmps109 (Nat.le_of_ble_eq_true rfl) ?_
  repeat (first | refine Vx ?_ | (apply Ops_q; (case hon => exact Va); (case hd => rfl); (case hq => exact YlA)) | refine Vr ?_ | refine Vt ?_ | refine Vf ?_ | refine Vm ?_ | refine Ve ?_ | refine Vo ?_ | refine Vz ?_ | refine Vn ?_)
  refine V_cond rfl (fun h1 => ?_) (fun h1 => ?_)
  · have hne : A.length ≠ B.length := fun e => by
      have : ¬((A.length : Int) = (B.length : Int)) := by simpa using h1
      omega
    repeat (first | refine Vx ?_ | (apply Ops_q; (case hon => exact Va); (case hd => rfl); (case hq => exact YlA)) | refine Vr ?_ | refine Vt ?_ | refine Vf ?_ | refine Vm ?_ | refine Ve ?_ | refine Vo ?_ | refine Vz ?_ | refine Vn ?_)
    refine ret1 (by first | exact .inl rfl | exact .inr rfl) rfl rfl ?_
    exact Ret_mk (by rw [decide_eq_false (fun e => hne (by rw [e]))]) (Ext.refl _)
  have hlen : A.length = B.length := by
    have : (A.length : Int) = (B.length : Int) := by simpa using h1
    omega
  clear h1
  repeat (first | refine Vx ?_ | (apply Ops_q; (case hon => exact Va); (case hd => rfl); (case hq => exact YlA)) | refine Vr ?_ | refine Vt ?_ | refine Vf ?_ | refine Vm ?_ | refine Ve ?_ | refine Vo ?_ | refine Vz ?_ | refine Vn ?_)
  refine V_loop (fun k : Nat => [(13, .int .i64 k), (12, .int .i64 A.length), (0, .slice ao A.length c), (1, .slice bo B.length d)]) (fun k w' => Ext w w' ∧ k ≤ A.length ∧ ∀ j, j < k → A[j]? = B[j]?) (fun k => A.length - k) 0 (by repeat (first | exact trivial | refine ⟨rfl, ?_⟩)) ⟨Ext.refl _, Nat.zero_le _, fun j h => by omega⟩ ?_
  rintro k w1 ⟨e1, hk, hs⟩
  repeat (first | refine Vx ?_ | (apply Ops_q; (case hon => exact Va); (case hd => rfl); (case hq => exact YlA)) | refine Vr ?_ | refine Vt ?_ | refine Vf ?_ | refine Vm ?_ | refine Ve ?_ | refine Vo ?_ | refine Vz ?_ | refine Vn ?_)
  refine V_cond rfl (fun hg => ?_) (fun hg => ?_)
  · replace hg := of_decide_eq_true hg
    have hkl : k < A.length := by omega
    clear hg
    obtain ⟨x, hx⟩ : ∃ x, A[k]? = some x := ⟨_, List.getElem?_eq_getElem hkl⟩
    obtain ⟨y, hy⟩ : ∃ y, B[k]? = some y := ⟨_, List.getElem?_eq_getElem (by omega)⟩
    obtain ⟨ad, rfl, hc⟩ := hA.at hx
    obtain ⟨bd, rfl, hd⟩ := hB.at hy
    have hkb : k < B.length := by omega
    have hc1 := World_cell_ext hc e1
    have hd1 := World_cell_ext hd e1
    repeat (first | refine Vx ?_ | (apply Ops_q; (case hon => exact Va); (case hd => rfl); (case hq => exact YlA)) | refine Vr ?_ | refine Vt ?_ | refine Vf ?_ | refine Vm ?_ | refine Ve ?_ | refine Vo ?_ | refine Vz ?_ | refine Vn ?_)
    (apply Ops_q; (case hon => (exact Va)); (case hd => rfl); (case hq => exact Yl_indexS (j := k) rfl rfl (by omega)))
    repeat (first | refine Vx ?_ | (apply Ops_q; (case hon => exact Va); (case hd => rfl); (case hq => exact YlA)) | refine Vr ?_ | refine Vt ?_ | refine Vf ?_ | refine Vm ?_ | refine Ve ?_ | refine Vo ?_ | refine Vz ?_ | refine Vn ?_)
    (apply Ops_q; (case hon => (exact Va)); (case hd => rfl); (case hq => exact Yl_indexS (j := k) rfl rfl (by omega)))
    repeat (first | refine Vx ?_ | (apply Ops_q; (case hon => exact Va); (case hd => rfl); (case hq => exact YlA)) | refine Vr ?_ | refine Vt ?_ | refine Vf ?_ | refine Vm ?_ | refine Ve ?_ | refine Vo ?_ | refine Vz ?_ | refine Vn ?_)
    refine V_cond rfl (fun h2 => ?_) (fun h2 => ?_)
    · have hne : x ≠ y := by simpa using h2
      repeat (first | refine Vx ?_ | (apply Ops_q; (case hon => exact Va); (case hd => rfl); (case hq => exact YlA)) | refine Vr ?_ | refine Vt ?_ | refine Vf ?_ | refine Vm ?_ | refine Ve ?_ | refine Vo ?_ | refine Vz ?_ | refine Vn ?_)
      refine ret1 (by first | exact .inl rfl | exact .inr rfl) rfl rfl ?_
      exact Ret_mk (by rw [decide_eq_false (fun e => hne (by rw [e, hy] at hx; exact (Option.some.inj hx).symm))]) e1
    · have heq : x = y := by simpa using h2
      repeat (first | refine Vx ?_ | (apply Ops_q; (case hon => exact Va); (case hd => rfl); (case hq => exact YlA)) | refine Vr ?_ | refine Vt ?_ | refine Vf ?_ | refine Vm ?_ | refine Ve ?_ | refine Vo ?_ | refine Vz ?_ | refine Vn ?_)
      refine ⟨k + 1, (by repeat (first | exact trivial | refine ⟨rfl, ?_⟩)), ⟨e1, hkl, fun j hj => ?_⟩, by omega⟩
      rcases Nat.lt_or_ge j k with c | c
      · exact hs j c
      · rw [show j = k by omega, hx, hy, heq]
  · replace hg := of_decide_eq_false hg
    obtain rfl : k = A.length := by omega
    repeat (first | refine Vx ?_ | (apply Ops_q; (case hon => exact Va); (case hd => rfl); (case hq => exact YlA)) | refine Vr ?_ | refine Vt ?_ | refine Vf ?_ | refine Vm ?_ | refine Ve ?_ | refine Vo ?_ | refine Vz ?_ | refine Vn ?_)
    refine ret1 (by first | exact .inl rfl | exact .inr rfl) rfl rfl ?_
    refine Ret_mk ?_ e1
    rw [decide_eq_true]
    refine List.ext_getElem? fun j => ?_
    rcases Nat.lt_or_ge j A.length with c | c
    · exact hs j c
    · rw [List.getElem?_eq_none c, List.getElem?_eq_none (by omega)]
end Go.Proofs.Ytjpnaofoeeegeaa

