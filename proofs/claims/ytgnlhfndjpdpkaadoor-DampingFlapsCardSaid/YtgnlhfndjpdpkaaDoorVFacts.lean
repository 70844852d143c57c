/-
  Facts on the types and functions of this seat's translation, each closed and checked by the kernel: what the rules of the text V look up.
  No conditions. Written by a program of the prover's own.
-/
import Derived.Test.YtgnlhfndjpdpkaaDoorProg
import Derived.Test.YtgnlhfndjpdpkaaDoorVOps
namespace Go.Proofs.YtgnlhfndjpdpkaaDoor
instance : TOne Tryd.prog 1 := ⟨fun _ => by kernel_rfl⟩
instance : TZero Tryd.prog 1 (.nilFunc) [.nilFunc] := ⟨by kernel_rfl, rfl⟩
instance : TSize Tryd.prog 1 1 8 := ⟨by kernel_rfl⟩
instance : TInt Tryd.prog 2 .i64 := ⟨by kernel_rfl⟩
instance : TOne Tryd.prog 2 := ⟨fun _ => by kernel_rfl⟩
instance : TZero Tryd.prog 2 (.int .i64 0) [.int .i64 0] := ⟨by kernel_rfl, rfl⟩
instance : TSize Tryd.prog 2 1 8 := ⟨by kernel_rfl⟩
instance : TInt Tryd.prog 3 .i64 := ⟨by kernel_rfl⟩
instance : TOne Tryd.prog 3 := ⟨fun _ => by kernel_rfl⟩
instance : TZero Tryd.prog 3 (.int .i64 0) [.int .i64 0] := ⟨by kernel_rfl, rfl⟩
instance : TSize Tryd.prog 3 1 8 := ⟨by kernel_rfl⟩
instance : TBool Tryd.prog 4 := ⟨by kernel_rfl⟩
instance : TOne Tryd.prog 4 := ⟨fun _ => by kernel_rfl⟩
instance : TZero Tryd.prog 4 (.bool false) [.bool false] := ⟨by kernel_rfl, rfl⟩
instance : TSize Tryd.prog 4 1 1 := ⟨by kernel_rfl⟩
instance : TInt Tryd.prog 5 .u8 := ⟨by kernel_rfl⟩
instance : TOne Tryd.prog 5 := ⟨fun _ => by kernel_rfl⟩
instance : TZero Tryd.prog 5 (.int .u8 0) [.int .u8 0] := ⟨by kernel_rfl, rfl⟩
instance : TSize Tryd.prog 5 1 1 := ⟨by kernel_rfl⟩
instance : TOne Tryd.prog 9 := ⟨fun _ => by kernel_rfl⟩
instance : TZero Tryd.prog 9 (.string ByteArray.empty) [.string ByteArray.empty] := ⟨by kernel_rfl, rfl⟩
instance : TSize Tryd.prog 9 1 16 := ⟨by kernel_rfl⟩
instance : TInt Tryd.prog 12 .u64 := ⟨by kernel_rfl⟩
instance : TOne Tryd.prog 12 := ⟨fun _ => by kernel_rfl⟩
instance : TZero Tryd.prog 12 (.int .u64 0) [.int .u64 0] := ⟨by kernel_rfl, rfl⟩
instance : TSize Tryd.prog 12 1 8 := ⟨by kernel_rfl⟩
instance : TAgg Tryd.prog 13 2 := ⟨fun _ => by kernel_rfl, by kernel_rfl⟩
instance : TZero Tryd.prog 13 (.agg #[.string ByteArray.empty, .int .u64 0]) [.string ByteArray.empty, .int .u64 0] := ⟨by kernel_rfl, rfl⟩
instance : TSize Tryd.prog 13 2 24 := ⟨by kernel_rfl⟩
instance : TField Tryd.prog 13 0 9 0 := ⟨fun _ _ => by kernel_rfl⟩
instance : TPart1 Tryd.prog 13 0 0 := ⟨fun _ _ => by kernel_rfl⟩
instance : TField Tryd.prog 13 1 12 1 := ⟨fun _ _ => by kernel_rfl⟩
instance : TPart1 Tryd.prog 13 1 1 := ⟨fun _ _ => by kernel_rfl⟩
instance : TBuild Tryd.prog 13 [(0, 1), (1, 1)] [.string ByteArray.empty, .int .u64 0] := ⟨fun _ => by kernel_rfl⟩
instance : TOne Tryd.prog 20 := ⟨fun _ => by kernel_rfl⟩
instance : TZero Tryd.prog 20 (.nilIface) [.nilIface] := ⟨by kernel_rfl, rfl⟩
instance : TSize Tryd.prog 20 1 16 := ⟨by kernel_rfl⟩
instance : TInt Tryd.prog 21 .i32 := ⟨by kernel_rfl⟩
instance : TOne Tryd.prog 21 := ⟨fun _ => by kernel_rfl⟩
instance : TZero Tryd.prog 21 (.int .i32 0) [.int .i32 0] := ⟨by kernel_rfl, rfl⟩
instance : TSize Tryd.prog 21 1 4 := ⟨by kernel_rfl⟩
instance : TAgg Tryd.prog 22 4 := ⟨fun _ => by kernel_rfl, by kernel_rfl⟩
instance : TZero Tryd.prog 22 (.agg #[.int .i64 0, .int .i64 0, .int .i64 0, .int .i64 0]) [.int .i64 0, .int .i64 0, .int .i64 0, .int .i64 0] := ⟨by kernel_rfl, rfl⟩
instance : TSize Tryd.prog 22 4 32 := ⟨by kernel_rfl⟩
instance : TField Tryd.prog 22 0 3 0 := ⟨fun _ _ => by kernel_rfl⟩
instance : TPart1 Tryd.prog 22 0 0 := ⟨fun _ _ => by kernel_rfl⟩
instance : TField Tryd.prog 22 1 3 1 := ⟨fun _ _ => by kernel_rfl⟩
instance : TPart1 Tryd.prog 22 1 1 := ⟨fun _ _ => by kernel_rfl⟩
instance : TField Tryd.prog 22 2 3 2 := ⟨fun _ _ => by kernel_rfl⟩
instance : TPart1 Tryd.prog 22 2 2 := ⟨fun _ _ => by kernel_rfl⟩
instance : TField Tryd.prog 22 3 3 3 := ⟨fun _ _ => by kernel_rfl⟩
instance : TPart1 Tryd.prog 22 3 3 := ⟨fun _ _ => by kernel_rfl⟩
instance : TBuild Tryd.prog 22 [(0, 1), (1, 1), (2, 1), (3, 1)] [.int .i64 0, .int .i64 0, .int .i64 0, .int .i64 0] := ⟨fun _ => by kernel_rfl⟩
instance : TAgg Tryd.prog 23 4 := ⟨fun _ => by kernel_rfl, by kernel_rfl⟩
instance : TZero Tryd.prog 23 (.agg #[.int .i64 0, .int .i64 0, .int .i64 0, .int .i64 0]) [.int .i64 0, .int .i64 0, .int .i64 0, .int .i64 0] := ⟨by kernel_rfl, rfl⟩
instance : TSize Tryd.prog 23 4 32 := ⟨by kernel_rfl⟩
instance : TField Tryd.prog 23 0 3 0 := ⟨fun _ _ => by kernel_rfl⟩
instance : TPart1 Tryd.prog 23 0 0 := ⟨fun _ _ => by kernel_rfl⟩
instance : TField Tryd.prog 23 1 3 1 := ⟨fun _ _ => by kernel_rfl⟩
instance : TPart1 Tryd.prog 23 1 1 := ⟨fun _ _ => by kernel_rfl⟩
instance : TField Tryd.prog 23 2 3 2 := ⟨fun _ _ => by kernel_rfl⟩
instance : TPart1 Tryd.prog 23 2 2 := ⟨fun _ _ => by kernel_rfl⟩
instance : TField Tryd.prog 23 3 3 3 := ⟨fun _ _ => by kernel_rfl⟩
instance : TPart1 Tryd.prog 23 3 3 := ⟨fun _ _ => by kernel_rfl⟩
instance : TBuild Tryd.prog 23 [(0, 1), (1, 1), (2, 1), (3, 1)] [.int .i64 0, .int .i64 0, .int .i64 0, .int .i64 0] := ⟨fun _ => by kernel_rfl⟩
instance : TInt Tryd.prog 24 .i64 := ⟨by kernel_rfl⟩
instance : TOne Tryd.prog 24 := ⟨fun _ => by kernel_rfl⟩
instance : TZero Tryd.prog 24 (.int .i64 0) [.int .i64 0] := ⟨by kernel_rfl, rfl⟩
instance : TSize Tryd.prog 24 1 8 := ⟨by kernel_rfl⟩
instance : TOne Tryd.prog 25 := ⟨fun _ => by kernel_rfl⟩
instance : TZero Tryd.prog 25 (.nilFunc) [.nilFunc] := ⟨by kernel_rfl, rfl⟩
instance : TSize Tryd.prog 25 1 8 := ⟨by kernel_rfl⟩
instance : TOne Tryd.prog 26 := ⟨fun _ => by kernel_rfl⟩
instance : TZero Tryd.prog 26 (.nilFunc) [.nilFunc] := ⟨by kernel_rfl, rfl⟩
instance : TSize Tryd.prog 26 1 8 := ⟨by kernel_rfl⟩
instance : TOne Tryd.prog 27 := ⟨fun _ => by kernel_rfl⟩
instance : TZero Tryd.prog 27 (.nilFunc) [.nilFunc] := ⟨by kernel_rfl, rfl⟩
instance : TSize Tryd.prog 27 1 8 := ⟨by kernel_rfl⟩
instance : TAgg Tryd.prog 28 3 := ⟨fun _ => by kernel_rfl, by kernel_rfl⟩
instance : TZero Tryd.prog 28 (.agg #[.int .i64 0, .int .i64 0, .bool false]) [.int .i64 0, .int .i64 0, .bool false] := ⟨by kernel_rfl, rfl⟩
instance : TSize Tryd.prog 28 3 24 := ⟨by kernel_rfl⟩
instance : TField Tryd.prog 28 0 3 0 := ⟨fun _ _ => by kernel_rfl⟩
instance : TPart1 Tryd.prog 28 0 0 := ⟨fun _ _ => by kernel_rfl⟩
instance : TField Tryd.prog 28 1 3 1 := ⟨fun _ _ => by kernel_rfl⟩
instance : TPart1 Tryd.prog 28 1 1 := ⟨fun _ _ => by kernel_rfl⟩
instance : TField Tryd.prog 28 2 4 2 := ⟨fun _ _ => by kernel_rfl⟩
instance : TPart1 Tryd.prog 28 2 2 := ⟨fun _ _ => by kernel_rfl⟩
instance : TBuild Tryd.prog 28 [(0, 1), (1, 1), (2, 1)] [.int .i64 0, .int .i64 0, .bool false] := ⟨fun _ => by kernel_rfl⟩
instance : TAgg Tryd.prog 29 3 := ⟨fun _ => by kernel_rfl, by kernel_rfl⟩
instance : TZero Tryd.prog 29 (.agg #[.int .i64 0, .int .i64 0, .bool false]) [.int .i64 0, .int .i64 0, .bool false] := ⟨by kernel_rfl, rfl⟩
instance : TSize Tryd.prog 29 3 24 := ⟨by kernel_rfl⟩
instance : TField Tryd.prog 29 0 3 0 := ⟨fun _ _ => by kernel_rfl⟩
instance : TPart1 Tryd.prog 29 0 0 := ⟨fun _ _ => by kernel_rfl⟩
instance : TField Tryd.prog 29 1 3 1 := ⟨fun _ _ => by kernel_rfl⟩
instance : TPart1 Tryd.prog 29 1 1 := ⟨fun _ _ => by kernel_rfl⟩
instance : TField Tryd.prog 29 2 4 2 := ⟨fun _ _ => by kernel_rfl⟩
instance : TPart1 Tryd.prog 29 2 2 := ⟨fun _ _ => by kernel_rfl⟩
instance : TBuild Tryd.prog 29 [(0, 1), (1, 1), (2, 1)] [.int .i64 0, .int .i64 0, .bool false] := ⟨fun _ => by kernel_rfl⟩
instance : TOne Tryd.prog 30 := ⟨fun _ => by kernel_rfl⟩
instance : TZero Tryd.prog 30 (.nilFunc) [.nilFunc] := ⟨by kernel_rfl, rfl⟩
instance : TSize Tryd.prog 30 1 8 := ⟨by kernel_rfl⟩
instance : TOne Tryd.prog 31 := ⟨fun _ => by kernel_rfl⟩
instance : TZero Tryd.prog 31 (.nilFunc) [.nilFunc] := ⟨by kernel_rfl, rfl⟩
instance : TSize Tryd.prog 31 1 8 := ⟨by kernel_rfl⟩
instance : TOne Tryd.prog 32 := ⟨fun _ => by kernel_rfl⟩
instance : TZero Tryd.prog 32 (.nilFunc) [.nilFunc] := ⟨by kernel_rfl, rfl⟩
instance : TSize Tryd.prog 32 1 8 := ⟨by kernel_rfl⟩
instance : TOne Tryd.prog 33 := ⟨fun _ => by kernel_rfl⟩
instance : TZero Tryd.prog 33 (.slice none 0 0) [.slice none 0 0] := ⟨by kernel_rfl, rfl⟩
instance : TSize Tryd.prog 33 1 24 := ⟨by kernel_rfl⟩
instance : TSlice Tryd.prog 33 35 := ⟨by kernel_rfl⟩
instance : TAgg Tryd.prog 34 2 := ⟨fun _ => by kernel_rfl, by kernel_rfl⟩
instance : TZero Tryd.prog 34 (.agg #[.int .i64 0, .bool false]) [.int .i64 0, .bool false] := ⟨by kernel_rfl, rfl⟩
instance : TSize Tryd.prog 34 2 16 := ⟨by kernel_rfl⟩
instance : TField Tryd.prog 34 0 3 0 := ⟨fun _ _ => by kernel_rfl⟩
instance : TPart1 Tryd.prog 34 0 0 := ⟨fun _ _ => by kernel_rfl⟩
instance : TField Tryd.prog 34 1 4 1 := ⟨fun _ _ => by kernel_rfl⟩
instance : TPart1 Tryd.prog 34 1 1 := ⟨fun _ _ => by kernel_rfl⟩
instance : TBuild Tryd.prog 34 [(0, 1), (1, 1)] [.int .i64 0, .bool false] := ⟨fun _ => by kernel_rfl⟩
instance : TAgg Tryd.prog 35 2 := ⟨fun _ => by kernel_rfl, by kernel_rfl⟩
instance : TZero Tryd.prog 35 (.agg #[.int .i64 0, .bool false]) [.int .i64 0, .bool false] := ⟨by kernel_rfl, rfl⟩
instance : TSize Tryd.prog 35 2 16 := ⟨by kernel_rfl⟩
instance : TField Tryd.prog 35 0 3 0 := ⟨fun _ _ => by kernel_rfl⟩
instance : TPart1 Tryd.prog 35 0 0 := ⟨fun _ _ => by kernel_rfl⟩
instance : TField Tryd.prog 35 1 4 1 := ⟨fun _ _ => by kernel_rfl⟩
instance : TPart1 Tryd.prog 35 1 1 := ⟨fun _ _ => by kernel_rfl⟩
instance : TBuild Tryd.prog 35 [(0, 1), (1, 1)] [.int .i64 0, .bool false] := ⟨fun _ => by kernel_rfl⟩
instance : TOne Tryd.prog 36 := ⟨fun _ => by kernel_rfl⟩
instance : TZero Tryd.prog 36 (.nilFunc) [.nilFunc] := ⟨by kernel_rfl, rfl⟩
instance : TSize Tryd.prog 36 1 8 := ⟨by kernel_rfl⟩
instance : TOne Tryd.prog 37 := ⟨fun _ => by kernel_rfl⟩
instance : TZero Tryd.prog 37 (.nilFunc) [.nilFunc] := ⟨by kernel_rfl, rfl⟩
instance : TSize Tryd.prog 37 1 8 := ⟨by kernel_rfl⟩
instance : TOne Tryd.prog 38 := ⟨fun _ => by kernel_rfl⟩
instance : TZero Tryd.prog 38 (.nilFunc) [.nilFunc] := ⟨by kernel_rfl, rfl⟩
instance : TSize Tryd.prog 38 1 8 := ⟨by kernel_rfl⟩
instance : TOne Tryd.prog 39 := ⟨fun _ => by kernel_rfl⟩
instance : TZero Tryd.prog 39 (.nilFunc) [.nilFunc] := ⟨by kernel_rfl, rfl⟩
instance : TSize Tryd.prog 39 1 8 := ⟨by kernel_rfl⟩
instance : TAgg Tryd.prog 40 2 := ⟨fun _ => by kernel_rfl, by kernel_rfl⟩
instance : TZero Tryd.prog 40 (.agg #[.int .i64 0, .int .i64 0]) [.int .i64 0, .int .i64 0] := ⟨by kernel_rfl, rfl⟩
instance : TSize Tryd.prog 40 2 16 := ⟨by kernel_rfl⟩
instance : TArray Tryd.prog 40 2 3 := ⟨by kernel_rfl⟩
instance : TOne Tryd.prog 41 := ⟨fun _ => by kernel_rfl⟩
instance : TZero Tryd.prog 41 (.nilFunc) [.nilFunc] := ⟨by kernel_rfl, rfl⟩
instance : TSize Tryd.prog 41 1 8 := ⟨by kernel_rfl⟩
instance : TOne Tryd.prog 42 := ⟨fun _ => by kernel_rfl⟩
instance : TZero Tryd.prog 42 (.nilFunc) [.nilFunc] := ⟨by kernel_rfl, rfl⟩
instance : TSize Tryd.prog 42 1 8 := ⟨by kernel_rfl⟩
instance : TOne Tryd.prog 43 := ⟨fun _ => by kernel_rfl⟩
instance : TZero Tryd.prog 43 (.nilFunc) [.nilFunc] := ⟨by kernel_rfl, rfl⟩
instance : TSize Tryd.prog 43 1 8 := ⟨by kernel_rfl⟩
instance : TOne Tryd.prog 44 := ⟨fun _ => by kernel_rfl⟩
instance : TZero Tryd.prog 44 (.nilFunc) [.nilFunc] := ⟨by kernel_rfl, rfl⟩
instance : TSize Tryd.prog 44 1 8 := ⟨by kernel_rfl⟩
instance : TOne Tryd.prog 45 := ⟨fun _ => by kernel_rfl⟩
instance : TZero Tryd.prog 45 (.nilFunc) [.nilFunc] := ⟨by kernel_rfl, rfl⟩
instance : TSize Tryd.prog 45 1 8 := ⟨by kernel_rfl⟩
instance : TOne Tryd.prog 46 := ⟨fun _ => by kernel_rfl⟩
instance : TZero Tryd.prog 46 (.nilFunc) [.nilFunc] := ⟨by kernel_rfl, rfl⟩
instance : TSize Tryd.prog 46 1 8 := ⟨by kernel_rfl⟩
instance : TOne Tryd.prog 47 := ⟨fun _ => by kernel_rfl⟩
instance : TZero Tryd.prog 47 (.nilFunc) [.nilFunc] := ⟨by kernel_rfl, rfl⟩
instance : TSize Tryd.prog 47 1 8 := ⟨by kernel_rfl⟩
instance : TOne Tryd.prog 48 := ⟨fun _ => by kernel_rfl⟩
instance : TZero Tryd.prog 48 (.nilFunc) [.nilFunc] := ⟨by kernel_rfl, rfl⟩
instance : TSize Tryd.prog 48 1 8 := ⟨by kernel_rfl⟩
instance : TOne Tryd.prog 49 := ⟨fun _ => by kernel_rfl⟩
instance : TZero Tryd.prog 49 (.nilFunc) [.nilFunc] := ⟨by kernel_rfl, rfl⟩
instance : TSize Tryd.prog 49 1 8 := ⟨by kernel_rfl⟩
instance : TOne Tryd.prog 50 := ⟨fun _ => by kernel_rfl⟩
instance : TZero Tryd.prog 50 (.nilFunc) [.nilFunc] := ⟨by kernel_rfl, rfl⟩
instance : TSize Tryd.prog 50 1 8 := ⟨by kernel_rfl⟩
instance : TInt Tryd.prog 51 .u64 := ⟨by kernel_rfl⟩
instance : TOne Tryd.prog 51 := ⟨fun _ => by kernel_rfl⟩
instance : TZero Tryd.prog 51 (.int .u64 0) [.int .u64 0] := ⟨by kernel_rfl, rfl⟩
instance : TSize Tryd.prog 51 1 8 := ⟨by kernel_rfl⟩
instance : TOne Tryd.prog 52 := ⟨fun _ => by kernel_rfl⟩
instance : TZero Tryd.prog 52 (.nilFunc) [.nilFunc] := ⟨by kernel_rfl, rfl⟩
instance : TSize Tryd.prog 52 1 8 := ⟨by kernel_rfl⟩
instance : TOne Tryd.prog 58 := ⟨fun _ => by kernel_rfl⟩
instance : TZero Tryd.prog 58 (.nilFunc) [.nilFunc] := ⟨by kernel_rfl, rfl⟩
instance : TSize Tryd.prog 58 1 8 := ⟨by kernel_rfl⟩
instance : TInt Tryd.prog 59 .u32 := ⟨by kernel_rfl⟩
instance : TOne Tryd.prog 59 := ⟨fun _ => by kernel_rfl⟩
instance : TZero Tryd.prog 59 (.int .u32 0) [.int .u32 0] := ⟨by kernel_rfl, rfl⟩
instance : TSize Tryd.prog 59 1 4 := ⟨by kernel_rfl⟩
instance : TOne Tryd.prog 63 := ⟨fun _ => by kernel_rfl⟩
instance : TZero Tryd.prog 63 (.pointer none) [.pointer none] := ⟨by kernel_rfl, rfl⟩
instance : TSize Tryd.prog 63 1 8 := ⟨by kernel_rfl⟩
instance : TPtr Tryd.prog 63 5 := ⟨by kernel_rfl⟩
instance : TFun Tryd.prog 3 := ⟨fun _ _ => by kernel_rfl⟩      -- routing/routinglaw42.DampingCheck
instance : TFun Tryd.prog 4 := ⟨fun _ _ => by kernel_rfl⟩      -- routing/routinglaw42.DampingDecay
instance : TFun Tryd.prog 5 := ⟨fun _ _ => by kernel_rfl⟩      -- routing/routinglaw42.DampingFlaps
instance : TFun Tryd.prog 6 := ⟨fun _ _ => by kernel_rfl⟩      -- routing/routinglaw42.DampingReuse
instance : TFun Tryd.prog 7 := ⟨fun _ _ => by kernel_rfl⟩      -- routing/routinglaw42.DampingFalls
instance : TFun Tryd.prog 8 := ⟨fun _ _ => by kernel_rfl⟩      -- routing/routinglaw42.DampingBound
instance : TFun Tryd.prog 9 := ⟨fun _ _ => by kernel_rfl⟩      -- routing/routinglaw42.DampingHalves
instance : TFun Tryd.prog 10 := ⟨fun _ _ => by kernel_rfl⟩      -- routing/damping.Check
instance : TFun Tryd.prog 11 := ⟨fun _ _ => by kernel_rfl⟩      -- routing/routingref42.Check
instance : TFun Tryd.prog 12 := ⟨fun _ _ => by kernel_rfl⟩      -- routing/routinglaw42.awake
instance : TFun Tryd.prog 13 := ⟨fun _ _ => by kernel_rfl⟩      -- routing/routinglaw42.Bounded
instance : TFun Tryd.prog 14 := ⟨fun _ _ => by kernel_rfl⟩      -- routing/damping.Decay
instance : TFun Tryd.prog 15 := ⟨fun _ _ => by kernel_rfl⟩      -- routing/routingref42.Decay
instance : TFun Tryd.prog 16 := ⟨fun _ _ => by kernel_rfl⟩      -- routing/damping.Flap
instance : TFun Tryd.prog 17 := ⟨fun _ _ => by kernel_rfl⟩      -- routing/routingref42.Flap
instance : TFun Tryd.prog 18 := ⟨fun _ _ => by kernel_rfl⟩      -- routing/damping.Reuse
instance : TFun Tryd.prog 19 := ⟨fun _ _ => by kernel_rfl⟩      -- routing/routingref42.Reuse
instance : TFun Tryd.prog 20 := ⟨fun _ _ => by kernel_rfl⟩      -- routing/routingref42.Ceiling
instance : TFun Tryd.prog 21 := ⟨fun _ _ => by kernel_rfl⟩      -- routing/damping.outside
instance : TFun Tryd.prog 22 := ⟨fun _ _ => by kernel_rfl⟩      -- routing/routinglaw42.conf
instance : TFun Tryd.prog 23 := ⟨fun _ _ => by kernel_rfl⟩      -- routing/damping.after
instance : TFun Tryd.prog 24 := ⟨fun _ _ => by kernel_rfl⟩      -- routing/routingref42.After
instance : TFun Tryd.prog 25 := ⟨fun _ _ => by kernel_rfl⟩      -- routing/routingref42.clamped
instance : TFun Tryd.prog 26 := ⟨fun _ _ => by kernel_rfl⟩      -- routing/damping.clamp
instance : TFun Tryd.prog 27 := ⟨fun _ _ => by kernel_rfl⟩      -- sort.Search
instance : TFun Tryd.prog 28 := ⟨fun _ _ => by kernel_rfl⟩      -- routing/damping.Reuse$1
end Go.Proofs.YtgnlhfndjpdpkaaDoor
