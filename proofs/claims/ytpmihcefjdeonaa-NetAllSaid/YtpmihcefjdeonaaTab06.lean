/- The table of the types of the seat's translation, for the engine; printed by wip/tab.py. -/
import Derived.Test.YtpmihcefjdeonaaEngC
import Derived.Test.YtpmihcefjdeonaaProg
namespace Go.Proofs.Ytpmihcefjdeonaa
open Go
noncomputable abbrev Try.infoAt (t : Nat) : TypeInfo := (Try.prog.info? t).getD default
def tyTab : List (Option TyI) := [
  none,
  some ⟨.func, 1, 8, .nilFunc⟩,
  some ⟨.int .i64, 1, 8, (.int .i64 0)⟩,
  some ⟨.int .i64, 1, 8, (.int .i64 0)⟩,
  some ⟨.bool, 1, 1, (.bool false)⟩,
  some ⟨.int .u8, 1, 1, (.int .u8 0)⟩,
  some ⟨.int .u8, 1, 1, (.int .u8 0)⟩,
  some ⟨.agg [(0, 2), (1, 3), (2, 4), (3, 6)], 4, 24, (.agg #[(.int .i64 0), (.int .i64 0), (.bool false), (.int .u8 0)])⟩,
  some ⟨.agg [(0, 2), (1, 3), (2, 4), (3, 6)], 4, 24, (.agg #[(.int .i64 0), (.int .i64 0), (.bool false), (.int .u8 0)])⟩,
  some ⟨.str, 1, 16, (.string ByteArray.empty)⟩,
  some ⟨.str, 1, 16, (.string ByteArray.empty)⟩,
  some ⟨.str, 1, 16, (.string ByteArray.empty)⟩,
  some ⟨.int .u64, 1, 8, (.int .u64 0)⟩,
  some ⟨.agg [(0, 9), (1, 12)], 2, 24, (.agg #[(.string ByteArray.empty), (.int .u64 0)])⟩,
  some ⟨.agg [(0, 9), (1, 12)], 2, 24, (.agg #[(.string ByteArray.empty), (.int .u64 0)])⟩,
  some ⟨.ptr 107, 1, 8, (.pointer none)⟩,
  some ⟨.ptr 110, 1, 8, (.pointer none)⟩,
  some ⟨.ptr 120, 1, 8, (.pointer none)⟩,
  some ⟨.agg [(0, 17)], 1, 8, (.agg #[(.pointer none)])⟩,
  some ⟨.agg [(0, 17)], 1, 8, (.agg #[(.pointer none)])⟩,
  some ⟨.iface, 1, 16, .nilIface⟩,
  some ⟨.int .i32, 1, 4, (.int .i32 0)⟩,
  some ⟨.slice 30, 1, 24, (.slice none 0 0)⟩,
  some ⟨.func, 1, 8, .nilFunc⟩,
  some ⟨.ptr 34, 1, 8, (.pointer none)⟩,
  none,
  some ⟨.func, 1, 8, .nilFunc⟩,
  some ⟨.func, 1, 8, .nilFunc⟩,
  some ⟨.slice 5, 1, 24, (.slice none 0 0)⟩,
  some ⟨.agg [(0, 3), (1, 3), (2, 3), (3, 3), (4, 28), (5, 4)], 6, 64, (.agg #[(.int .i64 0), (.int .i64 0), (.int .i64 0), (.int .i64 0), (.slice none 0 0), (.bool false)])⟩,
  some ⟨.agg [(0, 3), (1, 3), (2, 3), (3, 3), (4, 28), (5, 4)], 6, 64, (.agg #[(.int .i64 0), (.int .i64 0), (.int .i64 0), (.int .i64 0), (.slice none 0 0), (.bool false)])⟩,
  some ⟨.ptr 84, 1, 8, (.pointer none)⟩,
  some ⟨.ptr 69, 1, 8, (.pointer none)⟩,
  some ⟨.agg [(0, 31), (1, 32)], 2, 16, (.agg #[(.pointer none), (.pointer none)])⟩,
  some ⟨.agg [(0, 31), (1, 32)], 2, 16, (.agg #[(.pointer none), (.pointer none)])⟩,
  some ⟨.func, 1, 8, .nilFunc⟩,
  some ⟨.int .i64, 1, 8, (.int .i64 0)⟩,
  none,
  some ⟨.func, 1, 8, .nilFunc⟩,
  some ⟨.slice 81, 1, 24, (.slice none 0 0)⟩,
  some ⟨.func, 1, 8, .nilFunc⟩,
  some ⟨.func, 1, 8, .nilFunc⟩,
  some ⟨.func, 1, 8, .nilFunc⟩,
  some ⟨.slice 45, 1, 24, (.slice none 0 0)⟩,
  some ⟨.slice 46, 1, 24, (.slice none 0 0)⟩,
  some ⟨.slice 50, 1, 24, (.slice none 0 0)⟩,
  some ⟨.slice 3, 1, 24, (.slice none 0 0)⟩,
  some ⟨.func, 1, 8, .nilFunc⟩,
  some ⟨.func, 1, 8, .nilFunc⟩,
  some ⟨.func, 1, 8, .nilFunc⟩,
  some ⟨.slice 9, 1, 24, (.slice none 0 0)⟩,
  some ⟨.agg [(0, 3), (1, 28)], 2, 32, (.agg #[(.int .i64 0), (.slice none 0 0)])⟩,
  some ⟨.agg [(0, 3), (1, 28)], 2, 32, (.agg #[(.int .i64 0), (.slice none 0 0)])⟩,
  none,
  some ⟨.func, 1, 8, .nilFunc⟩,
  some ⟨.func, 1, 8, .nilFunc⟩,
  some ⟨.func, 1, 8, .nilFunc⟩,
  some ⟨.func, 1, 8, .nilFunc⟩,
  some ⟨.slice 24, 1, 24, (.slice none 0 0)⟩,
  some ⟨.func, 1, 8, .nilFunc⟩,
  some ⟨.func, 1, 8, .nilFunc⟩,
  none,
  some ⟨.func, 1, 8, .nilFunc⟩,
  none,
  some ⟨.func, 1, 8, .nilFunc⟩,
  some ⟨.slice 4, 1, 24, (.slice none 0 0)⟩,
  some ⟨.slice 96, 1, 24, (.slice none 0 0)⟩,
  some ⟨.slice 72, 1, 24, (.slice none 0 0)⟩,
  some ⟨.agg [(0, 65), (1, 66), (2, 67), (3, 39)], 4, 96, (.agg #[(.slice none 0 0), (.slice none 0 0), (.slice none 0 0), (.slice none 0 0)])⟩,
  some ⟨.agg [(0, 65), (1, 66), (2, 67), (3, 39)], 4, 96, (.agg #[(.slice none 0 0), (.slice none 0 0), (.slice none 0 0), (.slice none 0 0)])⟩,
  some ⟨.func, 1, 8, .nilFunc⟩,
  some ⟨.func, 1, 8, .nilFunc⟩,
  some ⟨.slice 52, 1, 24, (.slice none 0 0)⟩,
  some ⟨.ptr 78, 1, 8, (.pointer none)⟩,
  some ⟨.func, 1, 8, .nilFunc⟩,
  some ⟨.int .u64, 1, 8, (.int .u64 0)⟩,
  some ⟨.slice 28, 1, 24, (.slice none 0 0)⟩,
  some ⟨.agg [(0, 75), (1, 76), (2, 3), (3, 3)], 4, 48, (.agg #[(.int .u64 0), (.slice none 0 0), (.int .i64 0), (.int .i64 0)])⟩,
  some ⟨.agg [(0, 75), (1, 76), (2, 3), (3, 3)], 4, 48, (.agg #[(.int .u64 0), (.slice none 0 0), (.int .i64 0), (.int .i64 0)])⟩,
  some ⟨.func, 1, 8, .nilFunc⟩,
  some ⟨.agg [(0, 3), (1, 3), (2, 4), (3, 75), (4, 75), (5, 28)], 6, 64, (.agg #[(.int .i64 0), (.int .i64 0), (.bool false), (.int .u64 0), (.int .u64 0), (.slice none 0 0)])⟩,
  some ⟨.agg [(0, 3), (1, 3), (2, 4), (3, 75), (4, 75), (5, 28)], 6, 64, (.agg #[(.int .i64 0), (.int .i64 0), (.bool false), (.int .u64 0), (.int .u64 0), (.slice none 0 0)])⟩,
  some ⟨.map 86 73, 1, 8, (.map none)⟩,
  some ⟨.agg [(0, 65), (1, 82), (2, 39), (3, 67)], 4, 80, (.agg #[(.slice none 0 0), (.map none), (.slice none 0 0), (.slice none 0 0)])⟩,
  some ⟨.agg [(0, 65), (1, 82), (2, 39), (3, 67)], 4, 80, (.agg #[(.slice none 0 0), (.map none), (.slice none 0 0), (.slice none 0 0)])⟩,
  some ⟨.agg [(0, 3), (1, 3)], 2, 16, (.agg #[(.int .i64 0), (.int .i64 0)])⟩,
  some ⟨.agg [(0, 3), (1, 3)], 2, 16, (.agg #[(.int .i64 0), (.int .i64 0)])⟩,
  some ⟨.func, 1, 8, .nilFunc⟩,
  some ⟨.func, 1, 8, .nilFunc⟩,
  none,
  some ⟨.func, 1, 8, .nilFunc⟩,
  some ⟨.func, 1, 8, .nilFunc⟩,
  some ⟨.func, 1, 8, .nilFunc⟩,
  some ⟨.func, 1, 8, .nilFunc⟩,
  some ⟨.func, 1, 8, .nilFunc⟩,
  some ⟨.func, 1, 8, .nilFunc⟩,
  some ⟨.slice 99, 1, 24, (.slice none 0 0)⟩,
  some ⟨.func, 1, 8, .nilFunc⟩,
  some ⟨.agg [(0, 75), (1, 76), (2, 3), (3, 3)], 4, 48, (.agg #[(.int .u64 0), (.slice none 0 0), (.int .i64 0), (.int .i64 0)])⟩,
  some ⟨.agg [(0, 75), (1, 76), (2, 3), (3, 3)], 4, 48, (.agg #[(.int .u64 0), (.slice none 0 0), (.int .i64 0), (.int .i64 0)])⟩,
  some ⟨.func, 1, 8, .nilFunc⟩,
  none,
  some ⟨.func, 1, 8, .nilFunc⟩,
  some ⟨.func, 1, 8, .nilFunc⟩,
  some ⟨.func, 1, 8, .nilFunc⟩,
  some ⟨.func, 1, 8, .nilFunc⟩,
  some ⟨.agg [(0, 17), (1, 17), (2, 17), (3, 9)], 4, 40, (.agg #[(.pointer none), (.pointer none), (.pointer none), (.string ByteArray.empty)])⟩,
  some ⟨.agg [(0, 17), (1, 17), (2, 17), (3, 9)], 4, 40, (.agg #[(.pointer none), (.pointer none), (.pointer none), (.string ByteArray.empty)])⟩,
  some ⟨.arr 0 16, 0, 0, (.agg #[])⟩,
  some ⟨.agg [(0, 108)], 0, 0, (.agg #[])⟩,
  some ⟨.agg [(0, 108)], 0, 0, (.agg #[])⟩,
  some ⟨.func, 1, 8, .nilFunc⟩,
  some ⟨.int .u32, 1, 4, (.int .u32 0)⟩,
  some ⟨.int .u8, 1, 1, (.int .u8 0)⟩,
  some ⟨.int .u8, 1, 1, (.int .u8 0)⟩,
  some ⟨.func, 1, 8, .nilFunc⟩,
  some ⟨.ptr 5, 1, 8, (.pointer none)⟩,
  some ⟨.int .i32, 1, 4, (.int .i32 0)⟩,
  some ⟨.int .i32, 1, 4, (.int .i32 0)⟩,
  some ⟨.agg [(0, 12), (1, 12), (2, 112), (3, 113), (4, 5), (5, 5), (6, 114), (7, 115), (8, 116), (9, 117), (10, 118)], 11, 48, (.agg #[(.int .u64 0), (.int .u64 0), (.int .u32 0), (.int .u8 0), (.int .u8 0), (.int .u8 0), (.int .u8 0), .nilFunc, (.pointer none), (.int .i32 0), (.int .i32 0)])⟩,
  some ⟨.agg [(0, 12), (1, 12), (2, 112), (3, 113), (4, 5), (5, 5), (6, 114), (7, 115), (8, 116), (9, 117), (10, 118)], 11, 48, (.agg #[(.int .u64 0), (.int .u64 0), (.int .u32 0), (.int .u8 0), (.int .u8 0), (.int .u8 0), (.int .u8 0), .nilFunc, (.pointer none), (.int .i32 0), (.int .i32 0)])⟩,
  none]
theorem ty1 : TyI.good Try.prog 1 ⟨.func, 1, 8, .nilFunc⟩ := ⟨⟨_, _, _, Try.underlying1⟩, Try.infoAt 1, by kernel_rfl, by kernel_rfl, by kernel_rfl, by kernel_rfl⟩
theorem ty2 : TyI.good Try.prog 2 ⟨.int .i64, 1, 8, (.int .i64 0)⟩ := ⟨Try.underlying2, Try.infoAt 2, by kernel_rfl, by kernel_rfl, by kernel_rfl, by kernel_rfl⟩
theorem ty3 : TyI.good Try.prog 3 ⟨.int .i64, 1, 8, (.int .i64 0)⟩ := ⟨Try.underlying3, Try.infoAt 3, by kernel_rfl, by kernel_rfl, by kernel_rfl, by kernel_rfl⟩
theorem ty4 : TyI.good Try.prog 4 ⟨.bool, 1, 1, (.bool false)⟩ := ⟨Try.underlying4, Try.infoAt 4, by kernel_rfl, by kernel_rfl, by kernel_rfl, by kernel_rfl⟩
theorem ty5 : TyI.good Try.prog 5 ⟨.int .u8, 1, 1, (.int .u8 0)⟩ := ⟨Try.underlying5, Try.infoAt 5, by kernel_rfl, by kernel_rfl, by kernel_rfl, by kernel_rfl⟩
theorem ty6 : TyI.good Try.prog 6 ⟨.int .u8, 1, 1, (.int .u8 0)⟩ := ⟨Try.underlying6, Try.infoAt 6, by kernel_rfl, by kernel_rfl, by kernel_rfl, by kernel_rfl⟩
theorem ty7 : TyI.good Try.prog 7 ⟨.agg [(0, 2), (1, 3), (2, 4), (3, 6)], 4, 24, (.agg #[(.int .i64 0), (.int .i64 0), (.bool false), (.int .u8 0)])⟩ := ⟨⟨_, Try.underlying7, by kernel_rfl⟩, Try.infoAt 7, by kernel_rfl, by kernel_rfl, by kernel_rfl, by kernel_rfl⟩
theorem ty8 : TyI.good Try.prog 8 ⟨.agg [(0, 2), (1, 3), (2, 4), (3, 6)], 4, 24, (.agg #[(.int .i64 0), (.int .i64 0), (.bool false), (.int .u8 0)])⟩ := ⟨⟨_, Try.underlying8, by kernel_rfl⟩, Try.infoAt 8, by kernel_rfl, by kernel_rfl, by kernel_rfl, by kernel_rfl⟩
theorem ty9 : TyI.good Try.prog 9 ⟨.str, 1, 16, (.string ByteArray.empty)⟩ := ⟨Try.underlying9, Try.infoAt 9, by kernel_rfl, by kernel_rfl, by kernel_rfl, by kernel_rfl⟩
theorem ty10 : TyI.good Try.prog 10 ⟨.str, 1, 16, (.string ByteArray.empty)⟩ := ⟨Try.underlying10, Try.infoAt 10, by kernel_rfl, by kernel_rfl, by kernel_rfl, by kernel_rfl⟩
theorem ty11 : TyI.good Try.prog 11 ⟨.str, 1, 16, (.string ByteArray.empty)⟩ := ⟨Try.underlying11, Try.infoAt 11, by kernel_rfl, by kernel_rfl, by kernel_rfl, by kernel_rfl⟩
theorem ty12 : TyI.good Try.prog 12 ⟨.int .u64, 1, 8, (.int .u64 0)⟩ := ⟨Try.underlying12, Try.infoAt 12, by kernel_rfl, by kernel_rfl, by kernel_rfl, by kernel_rfl⟩
theorem ty13 : TyI.good Try.prog 13 ⟨.agg [(0, 9), (1, 12)], 2, 24, (.agg #[(.string ByteArray.empty), (.int .u64 0)])⟩ := ⟨⟨_, Try.underlying13, by kernel_rfl⟩, Try.infoAt 13, by kernel_rfl, by kernel_rfl, by kernel_rfl, by kernel_rfl⟩
theorem ty14 : TyI.good Try.prog 14 ⟨.agg [(0, 9), (1, 12)], 2, 24, (.agg #[(.string ByteArray.empty), (.int .u64 0)])⟩ := ⟨⟨_, Try.underlying14, by kernel_rfl⟩, Try.infoAt 14, by kernel_rfl, by kernel_rfl, by kernel_rfl, by kernel_rfl⟩
theorem ty15 : TyI.good Try.prog 15 ⟨.ptr 107, 1, 8, (.pointer none)⟩ := ⟨Try.underlying15, Try.infoAt 15, by kernel_rfl, by kernel_rfl, by kernel_rfl, by kernel_rfl⟩
theorem ty16 : TyI.good Try.prog 16 ⟨.ptr 110, 1, 8, (.pointer none)⟩ := ⟨Try.underlying16, Try.infoAt 16, by kernel_rfl, by kernel_rfl, by kernel_rfl, by kernel_rfl⟩
theorem ty17 : TyI.good Try.prog 17 ⟨.ptr 120, 1, 8, (.pointer none)⟩ := ⟨Try.underlying17, Try.infoAt 17, by kernel_rfl, by kernel_rfl, by kernel_rfl, by kernel_rfl⟩
theorem ty18 : TyI.good Try.prog 18 ⟨.agg [(0, 17)], 1, 8, (.agg #[(.pointer none)])⟩ := ⟨⟨_, Try.underlying18, by kernel_rfl⟩, Try.infoAt 18, by kernel_rfl, by kernel_rfl, by kernel_rfl, by kernel_rfl⟩
theorem ty19 : TyI.good Try.prog 19 ⟨.agg [(0, 17)], 1, 8, (.agg #[(.pointer none)])⟩ := ⟨⟨_, Try.underlying19, by kernel_rfl⟩, Try.infoAt 19, by kernel_rfl, by kernel_rfl, by kernel_rfl, by kernel_rfl⟩
theorem ty20 : TyI.good Try.prog 20 ⟨.iface, 1, 16, .nilIface⟩ := ⟨⟨_, Try.underlying20⟩, Try.infoAt 20, by kernel_rfl, by kernel_rfl, by kernel_rfl, by kernel_rfl⟩
theorem ty21 : TyI.good Try.prog 21 ⟨.int .i32, 1, 4, (.int .i32 0)⟩ := ⟨Try.underlying21, Try.infoAt 21, by kernel_rfl, by kernel_rfl, by kernel_rfl, by kernel_rfl⟩
theorem ty22 : TyI.good Try.prog 22 ⟨.slice 30, 1, 24, (.slice none 0 0)⟩ := ⟨Try.underlying22, Try.infoAt 22, by kernel_rfl, by kernel_rfl, by kernel_rfl, by kernel_rfl⟩
theorem ty23 : TyI.good Try.prog 23 ⟨.func, 1, 8, .nilFunc⟩ := ⟨⟨_, _, _, Try.underlying23⟩, Try.infoAt 23, by kernel_rfl, by kernel_rfl, by kernel_rfl, by kernel_rfl⟩
theorem ty24 : TyI.good Try.prog 24 ⟨.ptr 34, 1, 8, (.pointer none)⟩ := ⟨Try.underlying24, Try.infoAt 24, by kernel_rfl, by kernel_rfl, by kernel_rfl, by kernel_rfl⟩
theorem ty26 : TyI.good Try.prog 26 ⟨.func, 1, 8, .nilFunc⟩ := ⟨⟨_, _, _, Try.underlying26⟩, Try.infoAt 26, by kernel_rfl, by kernel_rfl, by kernel_rfl, by kernel_rfl⟩
theorem ty27 : TyI.good Try.prog 27 ⟨.func, 1, 8, .nilFunc⟩ := ⟨⟨_, _, _, Try.underlying27⟩, Try.infoAt 27, by kernel_rfl, by kernel_rfl, by kernel_rfl, by kernel_rfl⟩
theorem ty28 : TyI.good Try.prog 28 ⟨.slice 5, 1, 24, (.slice none 0 0)⟩ := ⟨Try.underlying28, Try.infoAt 28, by kernel_rfl, by kernel_rfl, by kernel_rfl, by kernel_rfl⟩
theorem ty29 : TyI.good Try.prog 29 ⟨.agg [(0, 3), (1, 3), (2, 3), (3, 3), (4, 28), (5, 4)], 6, 64, (.agg #[(.int .i64 0), (.int .i64 0), (.int .i64 0), (.int .i64 0), (.slice none 0 0), (.bool false)])⟩ := ⟨⟨_, Try.underlying29, by kernel_rfl⟩, Try.infoAt 29, by kernel_rfl, by kernel_rfl, by kernel_rfl, by kernel_rfl⟩
theorem ty30 : TyI.good Try.prog 30 ⟨.agg [(0, 3), (1, 3), (2, 3), (3, 3), (4, 28), (5, 4)], 6, 64, (.agg #[(.int .i64 0), (.int .i64 0), (.int .i64 0), (.int .i64 0), (.slice none 0 0), (.bool false)])⟩ := ⟨⟨_, Try.underlying30, by kernel_rfl⟩, Try.infoAt 30, by kernel_rfl, by kernel_rfl, by kernel_rfl, by kernel_rfl⟩
theorem ty31 : TyI.good Try.prog 31 ⟨.ptr 84, 1, 8, (.pointer none)⟩ := ⟨Try.underlying31, Try.infoAt 31, by kernel_rfl, by kernel_rfl, by kernel_rfl, by kernel_rfl⟩
theorem ty32 : TyI.good Try.prog 32 ⟨.ptr 69, 1, 8, (.pointer none)⟩ := ⟨Try.underlying32, Try.infoAt 32, by kernel_rfl, by kernel_rfl, by kernel_rfl, by kernel_rfl⟩
theorem ty33 : TyI.good Try.prog 33 ⟨.agg [(0, 31), (1, 32)], 2, 16, (.agg #[(.pointer none), (.pointer none)])⟩ := ⟨⟨_, Try.underlying33, by kernel_rfl⟩, Try.infoAt 33, by kernel_rfl, by kernel_rfl, by kernel_rfl, by kernel_rfl⟩
theorem ty34 : TyI.good Try.prog 34 ⟨.agg [(0, 31), (1, 32)], 2, 16, (.agg #[(.pointer none), (.pointer none)])⟩ := ⟨⟨_, Try.underlying34, by kernel_rfl⟩, Try.infoAt 34, by kernel_rfl, by kernel_rfl, by kernel_rfl, by kernel_rfl⟩
theorem ty35 : TyI.good Try.prog 35 ⟨.func, 1, 8, .nilFunc⟩ := ⟨⟨_, _, _, Try.underlying35⟩, Try.infoAt 35, by kernel_rfl, by kernel_rfl, by kernel_rfl, by kernel_rfl⟩
theorem ty36 : TyI.good Try.prog 36 ⟨.int .i64, 1, 8, (.int .i64 0)⟩ := ⟨Try.underlying36, Try.infoAt 36, by kernel_rfl, by kernel_rfl, by kernel_rfl, by kernel_rfl⟩
theorem ty38 : TyI.good Try.prog 38 ⟨.func, 1, 8, .nilFunc⟩ := ⟨⟨_, _, _, Try.underlying38⟩, Try.infoAt 38, by kernel_rfl, by kernel_rfl, by kernel_rfl, by kernel_rfl⟩
theorem ty39 : TyI.good Try.prog 39 ⟨.slice 81, 1, 24, (.slice none 0 0)⟩ := ⟨Try.underlying39, Try.infoAt 39, by kernel_rfl, by kernel_rfl, by kernel_rfl, by kernel_rfl⟩
theorem ty40 : TyI.good Try.prog 40 ⟨.func, 1, 8, .nilFunc⟩ := ⟨⟨_, _, _, Try.underlying40⟩, Try.infoAt 40, by kernel_rfl, by kernel_rfl, by kernel_rfl, by kernel_rfl⟩
theorem ty41 : TyI.good Try.prog 41 ⟨.func, 1, 8, .nilFunc⟩ := ⟨⟨_, _, _, Try.underlying41⟩, Try.infoAt 41, by kernel_rfl, by kernel_rfl, by kernel_rfl, by kernel_rfl⟩
theorem ty42 : TyI.good Try.prog 42 ⟨.func, 1, 8, .nilFunc⟩ := ⟨⟨_, _, _, Try.underlying42⟩, Try.infoAt 42, by kernel_rfl, by kernel_rfl, by kernel_rfl, by kernel_rfl⟩
theorem ty43 : TyI.good Try.prog 43 ⟨.slice 45, 1, 24, (.slice none 0 0)⟩ := ⟨Try.underlying43, Try.infoAt 43, by kernel_rfl, by kernel_rfl, by kernel_rfl, by kernel_rfl⟩
theorem ty44 : TyI.good Try.prog 44 ⟨.slice 46, 1, 24, (.slice none 0 0)⟩ := ⟨Try.underlying44, Try.infoAt 44, by kernel_rfl, by kernel_rfl, by kernel_rfl, by kernel_rfl⟩
theorem ty45 : TyI.good Try.prog 45 ⟨.slice 50, 1, 24, (.slice none 0 0)⟩ := ⟨Try.underlying45, Try.infoAt 45, by kernel_rfl, by kernel_rfl, by kernel_rfl, by kernel_rfl⟩
theorem ty46 : TyI.good Try.prog 46 ⟨.slice 3, 1, 24, (.slice none 0 0)⟩ := ⟨Try.underlying46, Try.infoAt 46, by kernel_rfl, by kernel_rfl, by kernel_rfl, by kernel_rfl⟩
theorem ty47 : TyI.good Try.prog 47 ⟨.func, 1, 8, .nilFunc⟩ := ⟨⟨_, _, _, Try.underlying47⟩, Try.infoAt 47, by kernel_rfl, by kernel_rfl, by kernel_rfl, by kernel_rfl⟩
theorem ty48 : TyI.good Try.prog 48 ⟨.func, 1, 8, .nilFunc⟩ := ⟨⟨_, _, _, Try.underlying48⟩, Try.infoAt 48, by kernel_rfl, by kernel_rfl, by kernel_rfl, by kernel_rfl⟩
theorem ty49 : TyI.good Try.prog 49 ⟨.func, 1, 8, .nilFunc⟩ := ⟨⟨_, _, _, Try.underlying49⟩, Try.infoAt 49, by kernel_rfl, by kernel_rfl, by kernel_rfl, by kernel_rfl⟩
theorem ty50 : TyI.good Try.prog 50 ⟨.slice 9, 1, 24, (.slice none 0 0)⟩ := ⟨Try.underlying50, Try.infoAt 50, by kernel_rfl, by kernel_rfl, by kernel_rfl, by kernel_rfl⟩
theorem ty51 : TyI.good Try.prog 51 ⟨.agg [(0, 3), (1, 28)], 2, 32, (.agg #[(.int .i64 0), (.slice none 0 0)])⟩ := ⟨⟨_, Try.underlying51, by kernel_rfl⟩, Try.infoAt 51, by kernel_rfl, by kernel_rfl, by kernel_rfl, by kernel_rfl⟩
theorem ty52 : TyI.good Try.prog 52 ⟨.agg [(0, 3), (1, 28)], 2, 32, (.agg #[(.int .i64 0), (.slice none 0 0)])⟩ := ⟨⟨_, Try.underlying52, by kernel_rfl⟩, Try.infoAt 52, by kernel_rfl, by kernel_rfl, by kernel_rfl, by kernel_rfl⟩
theorem ty54 : TyI.good Try.prog 54 ⟨.func, 1, 8, .nilFunc⟩ := ⟨⟨_, _, _, Try.underlying54⟩, Try.infoAt 54, by kernel_rfl, by kernel_rfl, by kernel_rfl, by kernel_rfl⟩
theorem ty55 : TyI.good Try.prog 55 ⟨.func, 1, 8, .nilFunc⟩ := ⟨⟨_, _, _, Try.underlying55⟩, Try.infoAt 55, by kernel_rfl, by kernel_rfl, by kernel_rfl, by kernel_rfl⟩
theorem ty56 : TyI.good Try.prog 56 ⟨.func, 1, 8, .nilFunc⟩ := ⟨⟨_, _, _, Try.underlying56⟩, Try.infoAt 56, by kernel_rfl, by kernel_rfl, by kernel_rfl, by kernel_rfl⟩
theorem ty57 : TyI.good Try.prog 57 ⟨.func, 1, 8, .nilFunc⟩ := ⟨⟨_, _, _, Try.underlying57⟩, Try.infoAt 57, by kernel_rfl, by kernel_rfl, by kernel_rfl, by kernel_rfl⟩
theorem ty58 : TyI.good Try.prog 58 ⟨.slice 24, 1, 24, (.slice none 0 0)⟩ := ⟨Try.underlying58, Try.infoAt 58, by kernel_rfl, by kernel_rfl, by kernel_rfl, by kernel_rfl⟩
theorem ty59 : TyI.good Try.prog 59 ⟨.func, 1, 8, .nilFunc⟩ := ⟨⟨_, _, _, Try.underlying59⟩, Try.infoAt 59, by kernel_rfl, by kernel_rfl, by kernel_rfl, by kernel_rfl⟩
theorem ty60 : TyI.good Try.prog 60 ⟨.func, 1, 8, .nilFunc⟩ := ⟨⟨_, _, _, Try.underlying60⟩, Try.infoAt 60, by kernel_rfl, by kernel_rfl, by kernel_rfl, by kernel_rfl⟩
theorem ty62 : TyI.good Try.prog 62 ⟨.func, 1, 8, .nilFunc⟩ := ⟨⟨_, _, _, Try.underlying62⟩, Try.infoAt 62, by kernel_rfl, by kernel_rfl, by kernel_rfl, by kernel_rfl⟩
theorem ty64 : TyI.good Try.prog 64 ⟨.func, 1, 8, .nilFunc⟩ := ⟨⟨_, _, _, Try.underlying64⟩, Try.infoAt 64, by kernel_rfl, by kernel_rfl, by kernel_rfl, by kernel_rfl⟩
theorem ty65 : TyI.good Try.prog 65 ⟨.slice 4, 1, 24, (.slice none 0 0)⟩ := ⟨Try.underlying65, Try.infoAt 65, by kernel_rfl, by kernel_rfl, by kernel_rfl, by kernel_rfl⟩
theorem ty66 : TyI.good Try.prog 66 ⟨.slice 96, 1, 24, (.slice none 0 0)⟩ := ⟨Try.underlying66, Try.infoAt 66, by kernel_rfl, by kernel_rfl, by kernel_rfl, by kernel_rfl⟩
theorem ty67 : TyI.good Try.prog 67 ⟨.slice 72, 1, 24, (.slice none 0 0)⟩ := ⟨Try.underlying67, Try.infoAt 67, by kernel_rfl, by kernel_rfl, by kernel_rfl, by kernel_rfl⟩
theorem ty68 : TyI.good Try.prog 68 ⟨.agg [(0, 65), (1, 66), (2, 67), (3, 39)], 4, 96, (.agg #[(.slice none 0 0), (.slice none 0 0), (.slice none 0 0), (.slice none 0 0)])⟩ := ⟨⟨_, Try.underlying68, by kernel_rfl⟩, Try.infoAt 68, by kernel_rfl, by kernel_rfl, by kernel_rfl, by kernel_rfl⟩
theorem ty69 : TyI.good Try.prog 69 ⟨.agg [(0, 65), (1, 66), (2, 67), (3, 39)], 4, 96, (.agg #[(.slice none 0 0), (.slice none 0 0), (.slice none 0 0), (.slice none 0 0)])⟩ := ⟨⟨_, Try.underlying69, by kernel_rfl⟩, Try.infoAt 69, by kernel_rfl, by kernel_rfl, by kernel_rfl, by kernel_rfl⟩
theorem ty70 : TyI.good Try.prog 70 ⟨.func, 1, 8, .nilFunc⟩ := ⟨⟨_, _, _, Try.underlying70⟩, Try.infoAt 70, by kernel_rfl, by kernel_rfl, by kernel_rfl, by kernel_rfl⟩
theorem ty71 : TyI.good Try.prog 71 ⟨.func, 1, 8, .nilFunc⟩ := ⟨⟨_, _, _, Try.underlying71⟩, Try.infoAt 71, by kernel_rfl, by kernel_rfl, by kernel_rfl, by kernel_rfl⟩
theorem ty72 : TyI.good Try.prog 72 ⟨.slice 52, 1, 24, (.slice none 0 0)⟩ := ⟨Try.underlying72, Try.infoAt 72, by kernel_rfl, by kernel_rfl, by kernel_rfl, by kernel_rfl⟩
theorem ty73 : TyI.good Try.prog 73 ⟨.ptr 78, 1, 8, (.pointer none)⟩ := ⟨Try.underlying73, Try.infoAt 73, by kernel_rfl, by kernel_rfl, by kernel_rfl, by kernel_rfl⟩
theorem ty74 : TyI.good Try.prog 74 ⟨.func, 1, 8, .nilFunc⟩ := ⟨⟨_, _, _, Try.underlying74⟩, Try.infoAt 74, by kernel_rfl, by kernel_rfl, by kernel_rfl, by kernel_rfl⟩
theorem ty75 : TyI.good Try.prog 75 ⟨.int .u64, 1, 8, (.int .u64 0)⟩ := ⟨Try.underlying75, Try.infoAt 75, by kernel_rfl, by kernel_rfl, by kernel_rfl, by kernel_rfl⟩
theorem ty76 : TyI.good Try.prog 76 ⟨.slice 28, 1, 24, (.slice none 0 0)⟩ := ⟨Try.underlying76, Try.infoAt 76, by kernel_rfl, by kernel_rfl, by kernel_rfl, by kernel_rfl⟩
theorem ty77 : TyI.good Try.prog 77 ⟨.agg [(0, 75), (1, 76), (2, 3), (3, 3)], 4, 48, (.agg #[(.int .u64 0), (.slice none 0 0), (.int .i64 0), (.int .i64 0)])⟩ := ⟨⟨_, Try.underlying77, by kernel_rfl⟩, Try.infoAt 77, by kernel_rfl, by kernel_rfl, by kernel_rfl, by kernel_rfl⟩
theorem ty78 : TyI.good Try.prog 78 ⟨.agg [(0, 75), (1, 76), (2, 3), (3, 3)], 4, 48, (.agg #[(.int .u64 0), (.slice none 0 0), (.int .i64 0), (.int .i64 0)])⟩ := ⟨⟨_, Try.underlying78, by kernel_rfl⟩, Try.infoAt 78, by kernel_rfl, by kernel_rfl, by kernel_rfl, by kernel_rfl⟩
theorem ty79 : TyI.good Try.prog 79 ⟨.func, 1, 8, .nilFunc⟩ := ⟨⟨_, _, _, Try.underlying79⟩, Try.infoAt 79, by kernel_rfl, by kernel_rfl, by kernel_rfl, by kernel_rfl⟩
theorem ty80 : TyI.good Try.prog 80 ⟨.agg [(0, 3), (1, 3), (2, 4), (3, 75), (4, 75), (5, 28)], 6, 64, (.agg #[(.int .i64 0), (.int .i64 0), (.bool false), (.int .u64 0), (.int .u64 0), (.slice none 0 0)])⟩ := ⟨⟨_, Try.underlying80, by kernel_rfl⟩, Try.infoAt 80, by kernel_rfl, by kernel_rfl, by kernel_rfl, by kernel_rfl⟩
theorem ty81 : TyI.good Try.prog 81 ⟨.agg [(0, 3), (1, 3), (2, 4), (3, 75), (4, 75), (5, 28)], 6, 64, (.agg #[(.int .i64 0), (.int .i64 0), (.bool false), (.int .u64 0), (.int .u64 0), (.slice none 0 0)])⟩ := ⟨⟨_, Try.underlying81, by kernel_rfl⟩, Try.infoAt 81, by kernel_rfl, by kernel_rfl, by kernel_rfl, by kernel_rfl⟩
theorem ty82 : TyI.good Try.prog 82 ⟨.map 86 73, 1, 8, (.map none)⟩ := ⟨Try.underlying82, Try.infoAt 82, by kernel_rfl, by kernel_rfl, by kernel_rfl, by kernel_rfl⟩
theorem ty83 : TyI.good Try.prog 83 ⟨.agg [(0, 65), (1, 82), (2, 39), (3, 67)], 4, 80, (.agg #[(.slice none 0 0), (.map none), (.slice none 0 0), (.slice none 0 0)])⟩ := ⟨⟨_, Try.underlying83, by kernel_rfl⟩, Try.infoAt 83, by kernel_rfl, by kernel_rfl, by kernel_rfl, by kernel_rfl⟩
theorem ty84 : TyI.good Try.prog 84 ⟨.agg [(0, 65), (1, 82), (2, 39), (3, 67)], 4, 80, (.agg #[(.slice none 0 0), (.map none), (.slice none 0 0), (.slice none 0 0)])⟩ := ⟨⟨_, Try.underlying84, by kernel_rfl⟩, Try.infoAt 84, by kernel_rfl, by kernel_rfl, by kernel_rfl, by kernel_rfl⟩
theorem ty85 : TyI.good Try.prog 85 ⟨.agg [(0, 3), (1, 3)], 2, 16, (.agg #[(.int .i64 0), (.int .i64 0)])⟩ := ⟨⟨_, Try.underlying85, by kernel_rfl⟩, Try.infoAt 85, by kernel_rfl, by kernel_rfl, by kernel_rfl, by kernel_rfl⟩
theorem ty86 : TyI.good Try.prog 86 ⟨.agg [(0, 3), (1, 3)], 2, 16, (.agg #[(.int .i64 0), (.int .i64 0)])⟩ := ⟨⟨_, Try.underlying86, by kernel_rfl⟩, Try.infoAt 86, by kernel_rfl, by kernel_rfl, by kernel_rfl, by kernel_rfl⟩
theorem ty87 : TyI.good Try.prog 87 ⟨.func, 1, 8, .nilFunc⟩ := ⟨⟨_, _, _, Try.underlying87⟩, Try.infoAt 87, by kernel_rfl, by kernel_rfl, by kernel_rfl, by kernel_rfl⟩
theorem ty88 : TyI.good Try.prog 88 ⟨.func, 1, 8, .nilFunc⟩ := ⟨⟨_, _, _, Try.underlying88⟩, Try.infoAt 88, by kernel_rfl, by kernel_rfl, by kernel_rfl, by kernel_rfl⟩
theorem ty90 : TyI.good Try.prog 90 ⟨.func, 1, 8, .nilFunc⟩ := ⟨⟨_, _, _, Try.underlying90⟩, Try.infoAt 90, by kernel_rfl, by kernel_rfl, by kernel_rfl, by kernel_rfl⟩
theorem ty91 : TyI.good Try.prog 91 ⟨.func, 1, 8, .nilFunc⟩ := ⟨⟨_, _, _, Try.underlying91⟩, Try.infoAt 91, by kernel_rfl, by kernel_rfl, by kernel_rfl, by kernel_rfl⟩
theorem ty92 : TyI.good Try.prog 92 ⟨.func, 1, 8, .nilFunc⟩ := ⟨⟨_, _, _, Try.underlying92⟩, Try.infoAt 92, by kernel_rfl, by kernel_rfl, by kernel_rfl, by kernel_rfl⟩
theorem ty93 : TyI.good Try.prog 93 ⟨.func, 1, 8, .nilFunc⟩ := ⟨⟨_, _, _, Try.underlying93⟩, Try.infoAt 93, by kernel_rfl, by kernel_rfl, by kernel_rfl, by kernel_rfl⟩
theorem ty94 : TyI.good Try.prog 94 ⟨.func, 1, 8, .nilFunc⟩ := ⟨⟨_, _, _, Try.underlying94⟩, Try.infoAt 94, by kernel_rfl, by kernel_rfl, by kernel_rfl, by kernel_rfl⟩
theorem ty95 : TyI.good Try.prog 95 ⟨.func, 1, 8, .nilFunc⟩ := ⟨⟨_, _, _, Try.underlying95⟩, Try.infoAt 95, by kernel_rfl, by kernel_rfl, by kernel_rfl, by kernel_rfl⟩
theorem ty96 : TyI.good Try.prog 96 ⟨.slice 99, 1, 24, (.slice none 0 0)⟩ := ⟨Try.underlying96, Try.infoAt 96, by kernel_rfl, by kernel_rfl, by kernel_rfl, by kernel_rfl⟩
theorem ty97 : TyI.good Try.prog 97 ⟨.func, 1, 8, .nilFunc⟩ := ⟨⟨_, _, _, Try.underlying97⟩, Try.infoAt 97, by kernel_rfl, by kernel_rfl, by kernel_rfl, by kernel_rfl⟩
theorem ty98 : TyI.good Try.prog 98 ⟨.agg [(0, 75), (1, 76), (2, 3), (3, 3)], 4, 48, (.agg #[(.int .u64 0), (.slice none 0 0), (.int .i64 0), (.int .i64 0)])⟩ := ⟨⟨_, Try.underlying98, by kernel_rfl⟩, Try.infoAt 98, by kernel_rfl, by kernel_rfl, by kernel_rfl, by kernel_rfl⟩
theorem ty99 : TyI.good Try.prog 99 ⟨.agg [(0, 75), (1, 76), (2, 3), (3, 3)], 4, 48, (.agg #[(.int .u64 0), (.slice none 0 0), (.int .i64 0), (.int .i64 0)])⟩ := ⟨⟨_, Try.underlying99, by kernel_rfl⟩, Try.infoAt 99, by kernel_rfl, by kernel_rfl, by kernel_rfl, by kernel_rfl⟩
theorem ty100 : TyI.good Try.prog 100 ⟨.func, 1, 8, .nilFunc⟩ := ⟨⟨_, _, _, Try.underlying100⟩, Try.infoAt 100, by kernel_rfl, by kernel_rfl, by kernel_rfl, by kernel_rfl⟩
theorem ty102 : TyI.good Try.prog 102 ⟨.func, 1, 8, .nilFunc⟩ := ⟨⟨_, _, _, Try.underlying102⟩, Try.infoAt 102, by kernel_rfl, by kernel_rfl, by kernel_rfl, by kernel_rfl⟩
theorem ty103 : TyI.good Try.prog 103 ⟨.func, 1, 8, .nilFunc⟩ := ⟨⟨_, _, _, Try.underlying103⟩, Try.infoAt 103, by kernel_rfl, by kernel_rfl, by kernel_rfl, by kernel_rfl⟩
theorem ty104 : TyI.good Try.prog 104 ⟨.func, 1, 8, .nilFunc⟩ := ⟨⟨_, _, _, Try.underlying104⟩, Try.infoAt 104, by kernel_rfl, by kernel_rfl, by kernel_rfl, by kernel_rfl⟩
theorem ty105 : TyI.good Try.prog 105 ⟨.func, 1, 8, .nilFunc⟩ := ⟨⟨_, _, _, Try.underlying105⟩, Try.infoAt 105, by kernel_rfl, by kernel_rfl, by kernel_rfl, by kernel_rfl⟩
theorem ty106 : TyI.good Try.prog 106 ⟨.agg [(0, 17), (1, 17), (2, 17), (3, 9)], 4, 40, (.agg #[(.pointer none), (.pointer none), (.pointer none), (.string ByteArray.empty)])⟩ := ⟨⟨_, Try.underlying106, by kernel_rfl⟩, Try.infoAt 106, by kernel_rfl, by kernel_rfl, by kernel_rfl, by kernel_rfl⟩
theorem ty107 : TyI.good Try.prog 107 ⟨.agg [(0, 17), (1, 17), (2, 17), (3, 9)], 4, 40, (.agg #[(.pointer none), (.pointer none), (.pointer none), (.string ByteArray.empty)])⟩ := ⟨⟨_, Try.underlying107, by kernel_rfl⟩, Try.infoAt 107, by kernel_rfl, by kernel_rfl, by kernel_rfl, by kernel_rfl⟩
theorem ty108 : TyI.good Try.prog 108 ⟨.arr 0 16, 0, 0, (.agg #[])⟩ := ⟨Try.underlying108, Try.infoAt 108, by kernel_rfl, by kernel_rfl, by kernel_rfl, by kernel_rfl⟩
theorem ty109 : TyI.good Try.prog 109 ⟨.agg [(0, 108)], 0, 0, (.agg #[])⟩ := ⟨⟨_, Try.underlying109, by kernel_rfl⟩, Try.infoAt 109, by kernel_rfl, by kernel_rfl, by kernel_rfl, by kernel_rfl⟩
theorem ty110 : TyI.good Try.prog 110 ⟨.agg [(0, 108)], 0, 0, (.agg #[])⟩ := ⟨⟨_, Try.underlying110, by kernel_rfl⟩, Try.infoAt 110, by kernel_rfl, by kernel_rfl, by kernel_rfl, by kernel_rfl⟩
theorem ty111 : TyI.good Try.prog 111 ⟨.func, 1, 8, .nilFunc⟩ := ⟨⟨_, _, _, Try.underlying111⟩, Try.infoAt 111, by kernel_rfl, by kernel_rfl, by kernel_rfl, by kernel_rfl⟩
theorem ty112 : TyI.good Try.prog 112 ⟨.int .u32, 1, 4, (.int .u32 0)⟩ := ⟨Try.underlying112, Try.infoAt 112, by kernel_rfl, by kernel_rfl, by kernel_rfl, by kernel_rfl⟩
theorem ty113 : TyI.good Try.prog 113 ⟨.int .u8, 1, 1, (.int .u8 0)⟩ := ⟨Try.underlying113, Try.infoAt 113, by kernel_rfl, by kernel_rfl, by kernel_rfl, by kernel_rfl⟩
theorem ty114 : TyI.good Try.prog 114 ⟨.int .u8, 1, 1, (.int .u8 0)⟩ := ⟨Try.underlying114, Try.infoAt 114, by kernel_rfl, by kernel_rfl, by kernel_rfl, by kernel_rfl⟩
theorem ty115 : TyI.good Try.prog 115 ⟨.func, 1, 8, .nilFunc⟩ := ⟨⟨_, _, _, Try.underlying115⟩, Try.infoAt 115, by kernel_rfl, by kernel_rfl, by kernel_rfl, by kernel_rfl⟩
theorem ty116 : TyI.good Try.prog 116 ⟨.ptr 5, 1, 8, (.pointer none)⟩ := ⟨Try.underlying116, Try.infoAt 116, by kernel_rfl, by kernel_rfl, by kernel_rfl, by kernel_rfl⟩
theorem ty117 : TyI.good Try.prog 117 ⟨.int .i32, 1, 4, (.int .i32 0)⟩ := ⟨Try.underlying117, Try.infoAt 117, by kernel_rfl, by kernel_rfl, by kernel_rfl, by kernel_rfl⟩
theorem ty118 : TyI.good Try.prog 118 ⟨.int .i32, 1, 4, (.int .i32 0)⟩ := ⟨Try.underlying118, Try.infoAt 118, by kernel_rfl, by kernel_rfl, by kernel_rfl, by kernel_rfl⟩
theorem ty119 : TyI.good Try.prog 119 ⟨.agg [(0, 12), (1, 12), (2, 112), (3, 113), (4, 5), (5, 5), (6, 114), (7, 115), (8, 116), (9, 117), (10, 118)], 11, 48, (.agg #[(.int .u64 0), (.int .u64 0), (.int .u32 0), (.int .u8 0), (.int .u8 0), (.int .u8 0), (.int .u8 0), .nilFunc, (.pointer none), (.int .i32 0), (.int .i32 0)])⟩ := ⟨⟨_, Try.underlying119, by kernel_rfl⟩, Try.infoAt 119, by kernel_rfl, by kernel_rfl, by kernel_rfl, by kernel_rfl⟩
theorem ty120 : TyI.good Try.prog 120 ⟨.agg [(0, 12), (1, 12), (2, 112), (3, 113), (4, 5), (5, 5), (6, 114), (7, 115), (8, 116), (9, 117), (10, 118)], 11, 48, (.agg #[(.int .u64 0), (.int .u64 0), (.int .u32 0), (.int .u8 0), (.int .u8 0), (.int .u8 0), (.int .u8 0), .nilFunc, (.pointer none), (.int .i32 0), (.int .i32 0)])⟩ := ⟨⟨_, Try.underlying120, by kernel_rfl⟩, Try.infoAt 120, by kernel_rfl, by kernel_rfl, by kernel_rfl, by kernel_rfl⟩
theorem tyGood : goodFrom Try.prog 0 tyTab := ⟨ty1, ty2, ty3, ty4, ty5, ty6, ty7, ty8, ty9, ty10, ty11, ty12, ty13, ty14, ty15, ty16, ty17, ty18, ty19, ty20, ty21, ty22, ty23, ty24, ty26, ty27, ty28, ty29, ty30, ty31, ty32, ty33, ty34, ty35, ty36, ty38, ty39, ty40, ty41, ty42, ty43, ty44, ty45, ty46, ty47, ty48, ty49, ty50, ty51, ty52, ty54, ty55, ty56, ty57, ty58, ty59, ty60, ty62, ty64, ty65, ty66, ty67, ty68, ty69, ty70, ty71, ty72, ty73, ty74, ty75, ty76, ty77, ty78, ty79, ty80, ty81, ty82, ty83, ty84, ty85, ty86, ty87, ty88, ty90, ty91, ty92, ty93, ty94, ty95, ty96, ty97, ty98, ty99, ty100, ty102, ty103, ty104, ty105, ty106, ty107, ty108, ty109, ty110, ty111, ty112, ty113, ty114, ty115, ty116, ty117, ty118, ty119, ty120, trivial⟩
noncomputable def env : Env := ⟨Try.prog, tyTab, fun t e h => by have := goodFrom_nth Try.prog tyTab 0 tyGood t e h; rwa [Nat.zero_add] at this, by kernel_rfl⟩
end Go.Proofs.Ytpmihcefjdeonaa
