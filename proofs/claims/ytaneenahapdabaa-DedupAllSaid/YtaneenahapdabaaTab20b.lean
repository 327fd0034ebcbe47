/- The table of the types of the seat's translation, for the engine; printed by wip/tab.py. -/
import Derived.Test.YtaneenahapdabaaEngC
import Derived.Test.YtaneenahapdabaaProg
namespace Go.Proofs.Ytaneenahapdabaa
open Go
noncomputable abbrev Try.infoAt (t : Nat) : TypeInfo := (Try.prog.info? t).getD default
def tyTab : List (Option TyI) := [
  none,
  some ⟨.func, 1, 8, .nilFunc⟩,
  some ⟨.int .i64, 1, 8, (.int .i64 0)⟩,
  some ⟨.int .i64, 1, 8, (.int .i64 0)⟩,
  some ⟨.bool, 1, 1, (.bool false)⟩,
  some ⟨.int .u8, 1, 1, (.int .u8 0)⟩,
  some ⟨.int .u8, 1, 1, (.int .u8 0)⟩,
  some ⟨.agg [(0, 2), (1, 3), (2, 4), (3, 6)], 4, 24, (.agg #[(.int .i64 0), (.int .i64 0), (.bool false), (.int .u8 0)])⟩,
  some ⟨.agg [(0, 2), (1, 3), (2, 4), (3, 6)], 4, 24, (.agg #[(.int .i64 0), (.int .i64 0), (.bool false), (.int .u8 0)])⟩,
  some ⟨.str, 1, 16, (.string ByteArray.empty)⟩,
  some ⟨.str, 1, 16, (.string ByteArray.empty)⟩,
  some ⟨.str, 1, 16, (.string ByteArray.empty)⟩,
  some ⟨.int .u64, 1, 8, (.int .u64 0)⟩,
  some ⟨.agg [(0, 9), (1, 12)], 2, 24, (.agg #[(.string ByteArray.empty), (.int .u64 0)])⟩,
  some ⟨.agg [(0, 9), (1, 12)], 2, 24, (.agg #[(.string ByteArray.empty), (.int .u64 0)])⟩,
  some ⟨.ptr 135, 1, 8, (.pointer none)⟩,
  some ⟨.ptr 138, 1, 8, (.pointer none)⟩,
  some ⟨.ptr 146, 1, 8, (.pointer none)⟩,
  some ⟨.agg [(0, 17)], 1, 8, (.agg #[(.pointer none)])⟩,
  some ⟨.agg [(0, 17)], 1, 8, (.agg #[(.pointer none)])⟩,
  some ⟨.iface, 1, 16, .nilIface⟩,
  some ⟨.int .i32, 1, 4, (.int .i32 0)⟩,
  some ⟨.slice 31, 1, 24, (.slice none 0 0)⟩,
  some ⟨.int .u16, 1, 2, (.int .u16 0)⟩,
  some ⟨.func, 1, 8, .nilFunc⟩,
  some ⟨.ptr 36, 1, 8, (.pointer none)⟩,
  none,
  some ⟨.func, 1, 8, .nilFunc⟩,
  some ⟨.int .u64, 1, 8, (.int .u64 0)⟩,
  some ⟨.slice 5, 1, 24, (.slice none 0 0)⟩,
  some ⟨.agg [(0, 3), (1, 28), (2, 28), (3, 29)], 4, 48, (.agg #[(.int .i64 0), (.int .u64 0), (.int .u64 0), (.slice none 0 0)])⟩,
  some ⟨.agg [(0, 3), (1, 28), (2, 28), (3, 29)], 4, 48, (.agg #[(.int .i64 0), (.int .u64 0), (.int .u64 0), (.slice none 0 0)])⟩,
  some ⟨.int .i64, 1, 8, (.int .i64 0)⟩,
  some ⟨.ptr 57, 1, 8, (.pointer none)⟩,
  some ⟨.ptr 80, 1, 8, (.pointer none)⟩,
  some ⟨.agg [(0, 33), (1, 34)], 2, 16, (.agg #[(.pointer none), (.pointer none)])⟩,
  some ⟨.agg [(0, 33), (1, 34)], 2, 16, (.agg #[(.pointer none), (.pointer none)])⟩,
  some ⟨.func, 1, 8, .nilFunc⟩,
  some ⟨.func, 1, 8, .nilFunc⟩,
  some ⟨.func, 1, 8, .nilFunc⟩,
  none,
  some ⟨.func, 1, 8, .nilFunc⟩,
  none,
  some ⟨.func, 1, 8, .nilFunc⟩,
  some ⟨.func, 1, 8, .nilFunc⟩,
  some ⟨.slice 25, 1, 24, (.slice none 0 0)⟩,
  some ⟨.func, 1, 8, .nilFunc⟩,
  some ⟨.func, 1, 8, .nilFunc⟩,
  some ⟨.func, 1, 8, .nilFunc⟩,
  some ⟨.func, 1, 8, .nilFunc⟩,
  none,
  some ⟨.func, 1, 8, .nilFunc⟩,
  none,
  some ⟨.func, 1, 8, .nilFunc⟩,
  some ⟨.ptr 61, 1, 8, (.pointer none)⟩,
  some ⟨.map 28 54, 1, 8, (.map none)⟩,
  some ⟨.agg [(0, 3), (1, 55)], 2, 16, (.agg #[(.int .i64 0), (.map none)])⟩,
  some ⟨.agg [(0, 3), (1, 55)], 2, 16, (.agg #[(.int .i64 0), (.map none)])⟩,
  some ⟨.map 28 29, 1, 8, (.map none)⟩,
  some ⟨.slice 28, 1, 24, (.slice none 0 0)⟩,
  some ⟨.agg [(0, 28), (1, 59), (2, 58)], 3, 40, (.agg #[(.int .u64 0), (.slice none 0 0), (.map none)])⟩,
  some ⟨.agg [(0, 28), (1, 59), (2, 58)], 3, 40, (.agg #[(.int .u64 0), (.slice none 0 0), (.map none)])⟩,
  none,
  some ⟨.func, 1, 8, .nilFunc⟩,
  some ⟨.func, 1, 8, .nilFunc⟩,
  some ⟨.agg [], 0, 0, (.agg #[])⟩,
  some ⟨.agg [], 0, 0, (.agg #[])⟩,
  some ⟨.ptr 69, 1, 8, (.pointer none)⟩,
  some ⟨.agg [(0, 29)], 1, 24, (.agg #[(.slice none 0 0)])⟩,
  some ⟨.agg [(0, 29)], 1, 24, (.agg #[(.slice none 0 0)])⟩,
  some ⟨.func, 1, 8, .nilFunc⟩,
  none,
  some ⟨.func, 1, 8, .nilFunc⟩,
  some ⟨.func, 1, 8, .nilFunc⟩,
  some ⟨.func, 1, 8, .nilFunc⟩,
  some ⟨.func, 1, 8, .nilFunc⟩,
  some ⟨.func, 1, 8, .nilFunc⟩,
  some ⟨.func, 1, 8, .nilFunc⟩,
  some ⟨.slice 84, 1, 24, (.slice none 0 0)⟩,
  some ⟨.agg [(0, 3), (1, 78)], 2, 32, (.agg #[(.int .i64 0), (.slice none 0 0)])⟩,
  some ⟨.agg [(0, 3), (1, 78)], 2, 32, (.agg #[(.int .i64 0), (.slice none 0 0)])⟩,
  some ⟨.func, 1, 8, .nilFunc⟩,
  some ⟨.slice 96, 1, 24, (.slice none 0 0)⟩,
  some ⟨.agg [(0, 28), (1, 28), (2, 82)], 3, 40, (.agg #[(.int .u64 0), (.int .u64 0), (.slice none 0 0)])⟩,
  some ⟨.agg [(0, 28), (1, 28), (2, 82)], 3, 40, (.agg #[(.int .u64 0), (.int .u64 0), (.slice none 0 0)])⟩,
  none,
  some ⟨.int .u64, 1, 8, (.int .u64 0)⟩,
  some ⟨.func, 1, 8, .nilFunc⟩,
  some ⟨.func, 1, 8, .nilFunc⟩,
  some ⟨.func, 1, 8, .nilFunc⟩,
  some ⟨.func, 1, 8, .nilFunc⟩,
  some ⟨.func, 1, 8, .nilFunc⟩,
  some ⟨.func, 1, 8, .nilFunc⟩,
  some ⟨.func, 1, 8, .nilFunc⟩,
  some ⟨.func, 1, 8, .nilFunc⟩,
  some ⟨.agg [(0, 28), (1, 29)], 2, 32, (.agg #[(.int .u64 0), (.slice none 0 0)])⟩,
  some ⟨.agg [(0, 28), (1, 29)], 2, 32, (.agg #[(.int .u64 0), (.slice none 0 0)])⟩,
  some ⟨.func, 1, 8, .nilFunc⟩,
  some ⟨.func, 1, 8, .nilFunc⟩,
  some ⟨.ptr 101, 1, 8, (.pointer none)⟩,
  some ⟨.agg [(0, 29), (1, 4)], 2, 32, (.agg #[(.slice none 0 0), (.bool false)])⟩,
  some ⟨.agg [(0, 29), (1, 4)], 2, 32, (.agg #[(.slice none 0 0), (.bool false)])⟩,
  some ⟨.func, 1, 8, .nilFunc⟩,
  some ⟨.func, 1, 8, .nilFunc⟩,
  some ⟨.func, 1, 8, .nilFunc⟩,
  some ⟨.func, 1, 8, .nilFunc⟩,
  some ⟨.func, 1, 8, .nilFunc⟩,
  some ⟨.func, 1, 8, .nilFunc⟩,
  some ⟨.func, 1, 8, .nilFunc⟩,
  some ⟨.func, 1, 8, .nilFunc⟩,
  some ⟨.func, 1, 8, .nilFunc⟩,
  some ⟨.func, 1, 8, .nilFunc⟩,
  some ⟨.func, 1, 8, .nilFunc⟩,
  some ⟨.func, 1, 8, .nilFunc⟩,
  some ⟨.func, 1, 8, .nilFunc⟩,
  some ⟨.int .i64, 1, 8, (.int .i64 0)⟩,
  none,
  some ⟨.func, 1, 8, .nilFunc⟩,
  some ⟨.func, 1, 8, .nilFunc⟩,
  some ⟨.func, 1, 8, .nilFunc⟩,
  some ⟨.func, 1, 8, .nilFunc⟩,
  some ⟨.func, 1, 8, .nilFunc⟩,
  some ⟨.int .u32, 1, 4, (.int .u32 0)⟩,
  some ⟨.func, 1, 8, .nilFunc⟩,
  some ⟨.int .u64, 1, 8, (.int .u64 0)⟩,
  some ⟨.func, 1, 8, .nilFunc⟩,
  some ⟨.func, 1, 8, .nilFunc⟩,
  some ⟨.func, 1, 8, .nilFunc⟩,
  some ⟨.ptr 3, 1, 8, (.pointer none)⟩,
  some ⟨.func, 1, 8, .nilFunc⟩,
  some ⟨.ptr 124, 1, 8, (.pointer none)⟩,
  none,
  some ⟨.func, 1, 8, .nilFunc⟩,
  some ⟨.func, 1, 8, .nilFunc⟩,
  some ⟨.agg [(0, 17), (1, 17), (2, 17), (3, 9)], 4, 40, (.agg #[(.pointer none), (.pointer none), (.pointer none), (.string ByteArray.empty)])⟩,
  some ⟨.agg [(0, 17), (1, 17), (2, 17), (3, 9)], 4, 40, (.agg #[(.pointer none), (.pointer none), (.pointer none), (.string ByteArray.empty)])⟩,
  some ⟨.arr 0 16, 0, 0, (.agg #[])⟩,
  some ⟨.agg [(0, 136)], 0, 0, (.agg #[])⟩,
  some ⟨.agg [(0, 136)], 0, 0, (.agg #[])⟩,
  some ⟨.int .u8, 1, 1, (.int .u8 0)⟩,
  some ⟨.int .u8, 1, 1, (.int .u8 0)⟩,
  some ⟨.func, 1, 8, .nilFunc⟩,
  some ⟨.ptr 5, 1, 8, (.pointer none)⟩,
  some ⟨.int .i32, 1, 4, (.int .i32 0)⟩,
  some ⟨.int .i32, 1, 4, (.int .i32 0)⟩,
  some ⟨.agg [(0, 12), (1, 12), (2, 122), (3, 139), (4, 5), (5, 5), (6, 140), (7, 141), (8, 142), (9, 143), (10, 144)], 11, 48, (.agg #[(.int .u64 0), (.int .u64 0), (.int .u32 0), (.int .u8 0), (.int .u8 0), (.int .u8 0), (.int .u8 0), .nilFunc, (.pointer none), (.int .i32 0), (.int .i32 0)])⟩,
  some ⟨.agg [(0, 12), (1, 12), (2, 122), (3, 139), (4, 5), (5, 5), (6, 140), (7, 141), (8, 142), (9, 143), (10, 144)], 11, 48, (.agg #[(.int .u64 0), (.int .u64 0), (.int .u32 0), (.int .u8 0), (.int .u8 0), (.int .u8 0), (.int .u8 0), .nilFunc, (.pointer none), (.int .i32 0), (.int .i32 0)])⟩,
  none]
theorem ty1 : TyI.good Try.prog 1 ⟨.func, 1, 8, .nilFunc⟩ := ⟨⟨_, _, _, Try.underlying1⟩, Try.infoAt 1, by kernel_rfl, by kernel_rfl, by kernel_rfl, by kernel_rfl⟩
theorem ty2 : TyI.good Try.prog 2 ⟨.int .i64, 1, 8, (.int .i64 0)⟩ := ⟨Try.underlying2, Try.infoAt 2, by kernel_rfl, by kernel_rfl, by kernel_rfl, by kernel_rfl⟩
theorem ty3 : TyI.good Try.prog 3 ⟨.int .i64, 1, 8, (.int .i64 0)⟩ := ⟨Try.underlying3, Try.infoAt 3, by kernel_rfl, by kernel_rfl, by kernel_rfl, by kernel_rfl⟩
theorem ty4 : TyI.good Try.prog 4 ⟨.bool, 1, 1, (.bool false)⟩ := ⟨Try.underlying4, Try.infoAt 4, by kernel_rfl, by kernel_rfl, by kernel_rfl, by kernel_rfl⟩
theorem ty5 : TyI.good Try.prog 5 ⟨.int .u8, 1, 1, (.int .u8 0)⟩ := ⟨Try.underlying5, Try.infoAt 5, by kernel_rfl, by kernel_rfl, by kernel_rfl, by kernel_rfl⟩
theorem ty6 : TyI.good Try.prog 6 ⟨.int .u8, 1, 1, (.int .u8 0)⟩ := ⟨Try.underlying6, Try.infoAt 6, by kernel_rfl, by kernel_rfl, by kernel_rfl, by kernel_rfl⟩
theorem ty7 : TyI.good Try.prog 7 ⟨.agg [(0, 2), (1, 3), (2, 4), (3, 6)], 4, 24, (.agg #[(.int .i64 0), (.int .i64 0), (.bool false), (.int .u8 0)])⟩ := ⟨⟨_, Try.underlying7, by kernel_rfl⟩, Try.infoAt 7, by kernel_rfl, by kernel_rfl, by kernel_rfl, by kernel_rfl⟩
theorem ty8 : TyI.good Try.prog 8 ⟨.agg [(0, 2), (1, 3), (2, 4), (3, 6)], 4, 24, (.agg #[(.int .i64 0), (.int .i64 0), (.bool false), (.int .u8 0)])⟩ := ⟨⟨_, Try.underlying8, by kernel_rfl⟩, Try.infoAt 8, by kernel_rfl, by kernel_rfl, by kernel_rfl, by kernel_rfl⟩
theorem ty9 : TyI.good Try.prog 9 ⟨.str, 1, 16, (.string ByteArray.empty)⟩ := ⟨Try.underlying9, Try.infoAt 9, by kernel_rfl, by kernel_rfl, by kernel_rfl, by kernel_rfl⟩
theorem ty10 : TyI.good Try.prog 10 ⟨.str, 1, 16, (.string ByteArray.empty)⟩ := ⟨Try.underlying10, Try.infoAt 10, by kernel_rfl, by kernel_rfl, by kernel_rfl, by kernel_rfl⟩
theorem ty11 : TyI.good Try.prog 11 ⟨.str, 1, 16, (.string ByteArray.empty)⟩ := ⟨Try.underlying11, Try.infoAt 11, by kernel_rfl, by kernel_rfl, by kernel_rfl, by kernel_rfl⟩
theorem ty12 : TyI.good Try.prog 12 ⟨.int .u64, 1, 8, (.int .u64 0)⟩ := ⟨Try.underlying12, Try.infoAt 12, by kernel_rfl, by kernel_rfl, by kernel_rfl, by kernel_rfl⟩
theorem ty13 : TyI.good Try.prog 13 ⟨.agg [(0, 9), (1, 12)], 2, 24, (.agg #[(.string ByteArray.empty), (.int .u64 0)])⟩ := ⟨⟨_, Try.underlying13, by kernel_rfl⟩, Try.infoAt 13, by kernel_rfl, by kernel_rfl, by kernel_rfl, by kernel_rfl⟩
theorem ty14 : TyI.good Try.prog 14 ⟨.agg [(0, 9), (1, 12)], 2, 24, (.agg #[(.string ByteArray.empty), (.int .u64 0)])⟩ := ⟨⟨_, Try.underlying14, by kernel_rfl⟩, Try.infoAt 14, by kernel_rfl, by kernel_rfl, by kernel_rfl, by kernel_rfl⟩
theorem ty15 : TyI.good Try.prog 15 ⟨.ptr 135, 1, 8, (.pointer none)⟩ := ⟨Try.underlying15, Try.infoAt 15, by kernel_rfl, by kernel_rfl, by kernel_rfl, by kernel_rfl⟩
theorem ty16 : TyI.good Try.prog 16 ⟨.ptr 138, 1, 8, (.pointer none)⟩ := ⟨Try.underlying16, Try.infoAt 16, by kernel_rfl, by kernel_rfl, by kernel_rfl, by kernel_rfl⟩
theorem ty17 : TyI.good Try.prog 17 ⟨.ptr 146, 1, 8, (.pointer none)⟩ := ⟨Try.underlying17, Try.infoAt 17, by kernel_rfl, by kernel_rfl, by kernel_rfl, by kernel_rfl⟩
theorem ty18 : TyI.good Try.prog 18 ⟨.agg [(0, 17)], 1, 8, (.agg #[(.pointer none)])⟩ := ⟨⟨_, Try.underlying18, by kernel_rfl⟩, Try.infoAt 18, by kernel_rfl, by kernel_rfl, by kernel_rfl, by kernel_rfl⟩
theorem ty19 : TyI.good Try.prog 19 ⟨.agg [(0, 17)], 1, 8, (.agg #[(.pointer none)])⟩ := ⟨⟨_, Try.underlying19, by kernel_rfl⟩, Try.infoAt 19, by kernel_rfl, by kernel_rfl, by kernel_rfl, by kernel_rfl⟩
theorem ty20 : TyI.good Try.prog 20 ⟨.iface, 1, 16, .nilIface⟩ := ⟨⟨_, Try.underlying20⟩, Try.infoAt 20, by kernel_rfl, by kernel_rfl, by kernel_rfl, by kernel_rfl⟩
theorem ty21 : TyI.good Try.prog 21 ⟨.int .i32, 1, 4, (.int .i32 0)⟩ := ⟨Try.underlying21, Try.infoAt 21, by kernel_rfl, by kernel_rfl, by kernel_rfl, by kernel_rfl⟩
theorem ty22 : TyI.good Try.prog 22 ⟨.slice 31, 1, 24, (.slice none 0 0)⟩ := ⟨Try.underlying22, Try.infoAt 22, by kernel_rfl, by kernel_rfl, by kernel_rfl, by kernel_rfl⟩
theorem ty23 : TyI.good Try.prog 23 ⟨.int .u16, 1, 2, (.int .u16 0)⟩ := ⟨Try.underlying23, Try.infoAt 23, by kernel_rfl, by kernel_rfl, by kernel_rfl, by kernel_rfl⟩
theorem ty24 : TyI.good Try.prog 24 ⟨.func, 1, 8, .nilFunc⟩ := ⟨⟨_, _, _, Try.underlying24⟩, Try.infoAt 24, by kernel_rfl, by kernel_rfl, by kernel_rfl, by kernel_rfl⟩
theorem ty25 : TyI.good Try.prog 25 ⟨.ptr 36, 1, 8, (.pointer none)⟩ := ⟨Try.underlying25, Try.infoAt 25, by kernel_rfl, by kernel_rfl, by kernel_rfl, by kernel_rfl⟩
theorem ty27 : TyI.good Try.prog 27 ⟨.func, 1, 8, .nilFunc⟩ := ⟨⟨_, _, _, Try.underlying27⟩, Try.infoAt 27, by kernel_rfl, by kernel_rfl, by kernel_rfl, by kernel_rfl⟩
theorem ty28 : TyI.good Try.prog 28 ⟨.int .u64, 1, 8, (.int .u64 0)⟩ := ⟨Try.underlying28, Try.infoAt 28, by kernel_rfl, by kernel_rfl, by kernel_rfl, by kernel_rfl⟩
theorem ty29 : TyI.good Try.prog 29 ⟨.slice 5, 1, 24, (.slice none 0 0)⟩ := ⟨Try.underlying29, Try.infoAt 29, by kernel_rfl, by kernel_rfl, by kernel_rfl, by kernel_rfl⟩
theorem ty30 : TyI.good Try.prog 30 ⟨.agg [(0, 3), (1, 28), (2, 28), (3, 29)], 4, 48, (.agg #[(.int .i64 0), (.int .u64 0), (.int .u64 0), (.slice none 0 0)])⟩ := ⟨⟨_, Try.underlying30, by kernel_rfl⟩, Try.infoAt 30, by kernel_rfl, by kernel_rfl, by kernel_rfl, by kernel_rfl⟩
theorem ty31 : TyI.good Try.prog 31 ⟨.agg [(0, 3), (1, 28), (2, 28), (3, 29)], 4, 48, (.agg #[(.int .i64 0), (.int .u64 0), (.int .u64 0), (.slice none 0 0)])⟩ := ⟨⟨_, Try.underlying31, by kernel_rfl⟩, Try.infoAt 31, by kernel_rfl, by kernel_rfl, by kernel_rfl, by kernel_rfl⟩
theorem ty32 : TyI.good Try.prog 32 ⟨.int .i64, 1, 8, (.int .i64 0)⟩ := ⟨Try.underlying32, Try.infoAt 32, by kernel_rfl, by kernel_rfl, by kernel_rfl, by kernel_rfl⟩
theorem ty33 : TyI.good Try.prog 33 ⟨.ptr 57, 1, 8, (.pointer none)⟩ := ⟨Try.underlying33, Try.infoAt 33, by kernel_rfl, by kernel_rfl, by kernel_rfl, by kernel_rfl⟩
theorem ty34 : TyI.good Try.prog 34 ⟨.ptr 80, 1, 8, (.pointer none)⟩ := ⟨Try.underlying34, Try.infoAt 34, by kernel_rfl, by kernel_rfl, by kernel_rfl, by kernel_rfl⟩
theorem ty35 : TyI.good Try.prog 35 ⟨.agg [(0, 33), (1, 34)], 2, 16, (.agg #[(.pointer none), (.pointer none)])⟩ := ⟨⟨_, Try.underlying35, by kernel_rfl⟩, Try.infoAt 35, by kernel_rfl, by kernel_rfl, by kernel_rfl, by kernel_rfl⟩
theorem ty36 : TyI.good Try.prog 36 ⟨.agg [(0, 33), (1, 34)], 2, 16, (.agg #[(.pointer none), (.pointer none)])⟩ := ⟨⟨_, Try.underlying36, by kernel_rfl⟩, Try.infoAt 36, by kernel_rfl, by kernel_rfl, by kernel_rfl, by kernel_rfl⟩
theorem ty37 : TyI.good Try.prog 37 ⟨.func, 1, 8, .nilFunc⟩ := ⟨⟨_, _, _, Try.underlying37⟩, Try.infoAt 37, by kernel_rfl, by kernel_rfl, by kernel_rfl, by kernel_rfl⟩
theorem ty38 : TyI.good Try.prog 38 ⟨.func, 1, 8, .nilFunc⟩ := ⟨⟨_, _, _, Try.underlying38⟩, Try.infoAt 38, by kernel_rfl, by kernel_rfl, by kernel_rfl, by kernel_rfl⟩
theorem ty39 : TyI.good Try.prog 39 ⟨.func, 1, 8, .nilFunc⟩ := ⟨⟨_, _, _, Try.underlying39⟩, Try.infoAt 39, by kernel_rfl, by kernel_rfl, by kernel_rfl, by kernel_rfl⟩
theorem ty41 : TyI.good Try.prog 41 ⟨.func, 1, 8, .nilFunc⟩ := ⟨⟨_, _, _, Try.underlying41⟩, Try.infoAt 41, by kernel_rfl, by kernel_rfl, by kernel_rfl, by kernel_rfl⟩
theorem ty43 : TyI.good Try.prog 43 ⟨.func, 1, 8, .nilFunc⟩ := ⟨⟨_, _, _, Try.underlying43⟩, Try.infoAt 43, by kernel_rfl, by kernel_rfl, by kernel_rfl, by kernel_rfl⟩
theorem ty44 : TyI.good Try.prog 44 ⟨.func, 1, 8, .nilFunc⟩ := ⟨⟨_, _, _, Try.underlying44⟩, Try.infoAt 44, by kernel_rfl, by kernel_rfl, by kernel_rfl, by kernel_rfl⟩
theorem ty45 : TyI.good Try.prog 45 ⟨.slice 25, 1, 24, (.slice none 0 0)⟩ := ⟨Try.underlying45, Try.infoAt 45, by kernel_rfl, by kernel_rfl, by kernel_rfl, by kernel_rfl⟩
theorem ty46 : TyI.good Try.prog 46 ⟨.func, 1, 8, .nilFunc⟩ := ⟨⟨_, _, _, Try.underlying46⟩, Try.infoAt 46, by kernel_rfl, by kernel_rfl, by kernel_rfl, by kernel_rfl⟩
theorem ty47 : TyI.good Try.prog 47 ⟨.func, 1, 8, .nilFunc⟩ := ⟨⟨_, _, _, Try.underlying47⟩, Try.infoAt 47, by kernel_rfl, by kernel_rfl, by kernel_rfl, by kernel_rfl⟩
theorem ty48 : TyI.good Try.prog 48 ⟨.func, 1, 8, .nilFunc⟩ := ⟨⟨_, _, _, Try.underlying48⟩, Try.infoAt 48, by kernel_rfl, by kernel_rfl, by kernel_rfl, by kernel_rfl⟩
theorem ty49 : TyI.good Try.prog 49 ⟨.func, 1, 8, .nilFunc⟩ := ⟨⟨_, _, _, Try.underlying49⟩, Try.infoAt 49, by kernel_rfl, by kernel_rfl, by kernel_rfl, by kernel_rfl⟩
theorem ty51 : TyI.good Try.prog 51 ⟨.func, 1, 8, .nilFunc⟩ := ⟨⟨_, _, _, Try.underlying51⟩, Try.infoAt 51, by kernel_rfl, by kernel_rfl, by kernel_rfl, by kernel_rfl⟩
theorem ty53 : TyI.good Try.prog 53 ⟨.func, 1, 8, .nilFunc⟩ := ⟨⟨_, _, _, Try.underlying53⟩, Try.infoAt 53, by kernel_rfl, by kernel_rfl, by kernel_rfl, by kernel_rfl⟩
theorem ty54 : TyI.good Try.prog 54 ⟨.ptr 61, 1, 8, (.pointer none)⟩ := ⟨Try.underlying54, Try.infoAt 54, by kernel_rfl, by kernel_rfl, by kernel_rfl, by kernel_rfl⟩
theorem ty55 : TyI.good Try.prog 55 ⟨.map 28 54, 1, 8, (.map none)⟩ := ⟨Try.underlying55, Try.infoAt 55, by kernel_rfl, by kernel_rfl, by kernel_rfl, by kernel_rfl⟩
theorem ty56 : TyI.good Try.prog 56 ⟨.agg [(0, 3), (1, 55)], 2, 16, (.agg #[(.int .i64 0), (.map none)])⟩ := ⟨⟨_, Try.underlying56, by kernel_rfl⟩, Try.infoAt 56, by kernel_rfl, by kernel_rfl, by kernel_rfl, by kernel_rfl⟩
theorem ty57 : TyI.good Try.prog 57 ⟨.agg [(0, 3), (1, 55)], 2, 16, (.agg #[(.int .i64 0), (.map none)])⟩ := ⟨⟨_, Try.underlying57, by kernel_rfl⟩, Try.infoAt 57, by kernel_rfl, by kernel_rfl, by kernel_rfl, by kernel_rfl⟩
theorem ty58 : TyI.good Try.prog 58 ⟨.map 28 29, 1, 8, (.map none)⟩ := ⟨Try.underlying58, Try.infoAt 58, by kernel_rfl, by kernel_rfl, by kernel_rfl, by kernel_rfl⟩
theorem ty59 : TyI.good Try.prog 59 ⟨.slice 28, 1, 24, (.slice none 0 0)⟩ := ⟨Try.underlying59, Try.infoAt 59, by kernel_rfl, by kernel_rfl, by kernel_rfl, by kernel_rfl⟩
theorem ty60 : TyI.good Try.prog 60 ⟨.agg [(0, 28), (1, 59), (2, 58)], 3, 40, (.agg #[(.int .u64 0), (.slice none 0 0), (.map none)])⟩ := ⟨⟨_, Try.underlying60, by kernel_rfl⟩, Try.infoAt 60, by kernel_rfl, by kernel_rfl, by kernel_rfl, by kernel_rfl⟩
theorem ty61 : TyI.good Try.prog 61 ⟨.agg [(0, 28), (1, 59), (2, 58)], 3, 40, (.agg #[(.int .u64 0), (.slice none 0 0), (.map none)])⟩ := ⟨⟨_, Try.underlying61, by kernel_rfl⟩, Try.infoAt 61, by kernel_rfl, by kernel_rfl, by kernel_rfl, by kernel_rfl⟩
theorem ty63 : TyI.good Try.prog 63 ⟨.func, 1, 8, .nilFunc⟩ := ⟨⟨_, _, _, Try.underlying63⟩, Try.infoAt 63, by kernel_rfl, by kernel_rfl, by kernel_rfl, by kernel_rfl⟩
theorem ty64 : TyI.good Try.prog 64 ⟨.func, 1, 8, .nilFunc⟩ := ⟨⟨_, _, _, Try.underlying64⟩, Try.infoAt 64, by kernel_rfl, by kernel_rfl, by kernel_rfl, by kernel_rfl⟩
theorem ty65 : TyI.good Try.prog 65 ⟨.agg [], 0, 0, (.agg #[])⟩ := ⟨⟨_, Try.underlying65, by kernel_rfl⟩, Try.infoAt 65, by kernel_rfl, by kernel_rfl, by kernel_rfl, by kernel_rfl⟩
theorem ty66 : TyI.good Try.prog 66 ⟨.agg [], 0, 0, (.agg #[])⟩ := ⟨⟨_, Try.underlying66, by kernel_rfl⟩, Try.infoAt 66, by kernel_rfl, by kernel_rfl, by kernel_rfl, by kernel_rfl⟩
theorem ty67 : TyI.good Try.prog 67 ⟨.ptr 69, 1, 8, (.pointer none)⟩ := ⟨Try.underlying67, Try.infoAt 67, by kernel_rfl, by kernel_rfl, by kernel_rfl, by kernel_rfl⟩
theorem ty68 : TyI.good Try.prog 68 ⟨.agg [(0, 29)], 1, 24, (.agg #[(.slice none 0 0)])⟩ := ⟨⟨_, Try.underlying68, by kernel_rfl⟩, Try.infoAt 68, by kernel_rfl, by kernel_rfl, by kernel_rfl, by kernel_rfl⟩
theorem ty69 : TyI.good Try.prog 69 ⟨.agg [(0, 29)], 1, 24, (.agg #[(.slice none 0 0)])⟩ := ⟨⟨_, Try.underlying69, by kernel_rfl⟩, Try.infoAt 69, by kernel_rfl, by kernel_rfl, by kernel_rfl, by kernel_rfl⟩
theorem ty70 : TyI.good Try.prog 70 ⟨.func, 1, 8, .nilFunc⟩ := ⟨⟨_, _, _, Try.underlying70⟩, Try.infoAt 70, by kernel_rfl, by kernel_rfl, by kernel_rfl, by kernel_rfl⟩
theorem ty72 : TyI.good Try.prog 72 ⟨.func, 1, 8, .nilFunc⟩ := ⟨⟨_, _, _, Try.underlying72⟩, Try.infoAt 72, by kernel_rfl, by kernel_rfl, by kernel_rfl, by kernel_rfl⟩
theorem ty73 : TyI.good Try.prog 73 ⟨.func, 1, 8, .nilFunc⟩ := ⟨⟨_, _, _, Try.underlying73⟩, Try.infoAt 73, by kernel_rfl, by kernel_rfl, by kernel_rfl, by kernel_rfl⟩
theorem ty74 : TyI.good Try.prog 74 ⟨.func, 1, 8, .nilFunc⟩ := ⟨⟨_, _, _, Try.underlying74⟩, Try.infoAt 74, by kernel_rfl, by kernel_rfl, by kernel_rfl, by kernel_rfl⟩
theorem ty75 : TyI.good Try.prog 75 ⟨.func, 1, 8, .nilFunc⟩ := ⟨⟨_, _, _, Try.underlying75⟩, Try.infoAt 75, by kernel_rfl, by kernel_rfl, by kernel_rfl, by kernel_rfl⟩
theorem ty76 : TyI.good Try.prog 76 ⟨.func, 1, 8, .nilFunc⟩ := ⟨⟨_, _, _, Try.underlying76⟩, Try.infoAt 76, by kernel_rfl, by kernel_rfl, by kernel_rfl, by kernel_rfl⟩
theorem ty77 : TyI.good Try.prog 77 ⟨.func, 1, 8, .nilFunc⟩ := ⟨⟨_, _, _, Try.underlying77⟩, Try.infoAt 77, by kernel_rfl, by kernel_rfl, by kernel_rfl, by kernel_rfl⟩
theorem ty78 : TyI.good Try.prog 78 ⟨.slice 84, 1, 24, (.slice none 0 0)⟩ := ⟨Try.underlying78, Try.infoAt 78, by kernel_rfl, by kernel_rfl, by kernel_rfl, by kernel_rfl⟩
theorem ty79 : TyI.good Try.prog 79 ⟨.agg [(0, 3), (1, 78)], 2, 32, (.agg #[(.int .i64 0), (.slice none 0 0)])⟩ := ⟨⟨_, Try.underlying79, by kernel_rfl⟩, Try.infoAt 79, by kernel_rfl, by kernel_rfl, by kernel_rfl, by kernel_rfl⟩
theorem ty80 : TyI.good Try.prog 80 ⟨.agg [(0, 3), (1, 78)], 2, 32, (.agg #[(.int .i64 0), (.slice none 0 0)])⟩ := ⟨⟨_, Try.underlying80, by kernel_rfl⟩, Try.infoAt 80, by kernel_rfl, by kernel_rfl, by kernel_rfl, by kernel_rfl⟩
theorem ty81 : TyI.good Try.prog 81 ⟨.func, 1, 8, .nilFunc⟩ := ⟨⟨_, _, _, Try.underlying81⟩, Try.infoAt 81, by kernel_rfl, by kernel_rfl, by kernel_rfl, by kernel_rfl⟩
theorem ty82 : TyI.good Try.prog 82 ⟨.slice 96, 1, 24, (.slice none 0 0)⟩ := ⟨Try.underlying82, Try.infoAt 82, by kernel_rfl, by kernel_rfl, by kernel_rfl, by kernel_rfl⟩
theorem ty83 : TyI.good Try.prog 83 ⟨.agg [(0, 28), (1, 28), (2, 82)], 3, 40, (.agg #[(.int .u64 0), (.int .u64 0), (.slice none 0 0)])⟩ := ⟨⟨_, Try.underlying83, by kernel_rfl⟩, Try.infoAt 83, by kernel_rfl, by kernel_rfl, by kernel_rfl, by kernel_rfl⟩
theorem ty84 : TyI.good Try.prog 84 ⟨.agg [(0, 28), (1, 28), (2, 82)], 3, 40, (.agg #[(.int .u64 0), (.int .u64 0), (.slice none 0 0)])⟩ := ⟨⟨_, Try.underlying84, by kernel_rfl⟩, Try.infoAt 84, by kernel_rfl, by kernel_rfl, by kernel_rfl, by kernel_rfl⟩
theorem ty86 : TyI.good Try.prog 86 ⟨.int .u64, 1, 8, (.int .u64 0)⟩ := ⟨Try.underlying86, Try.infoAt 86, by kernel_rfl, by kernel_rfl, by kernel_rfl, by kernel_rfl⟩
theorem ty87 : TyI.good Try.prog 87 ⟨.func, 1, 8, .nilFunc⟩ := ⟨⟨_, _, _, Try.underlying87⟩, Try.infoAt 87, by kernel_rfl, by kernel_rfl, by kernel_rfl, by kernel_rfl⟩
theorem ty88 : TyI.good Try.prog 88 ⟨.func, 1, 8, .nilFunc⟩ := ⟨⟨_, _, _, Try.underlying88⟩, Try.infoAt 88, by kernel_rfl, by kernel_rfl, by kernel_rfl, by kernel_rfl⟩
theorem ty89 : TyI.good Try.prog 89 ⟨.func, 1, 8, .nilFunc⟩ := ⟨⟨_, _, _, Try.underlying89⟩, Try.infoAt 89, by kernel_rfl, by kernel_rfl, by kernel_rfl, by kernel_rfl⟩
theorem ty90 : TyI.good Try.prog 90 ⟨.func, 1, 8, .nilFunc⟩ := ⟨⟨_, _, _, Try.underlying90⟩, Try.infoAt 90, by kernel_rfl, by kernel_rfl, by kernel_rfl, by kernel_rfl⟩
theorem ty91 : TyI.good Try.prog 91 ⟨.func, 1, 8, .nilFunc⟩ := ⟨⟨_, _, _, Try.underlying91⟩, Try.infoAt 91, by kernel_rfl, by kernel_rfl, by kernel_rfl, by kernel_rfl⟩
theorem ty92 : TyI.good Try.prog 92 ⟨.func, 1, 8, .nilFunc⟩ := ⟨⟨_, _, _, Try.underlying92⟩, Try.infoAt 92, by kernel_rfl, by kernel_rfl, by kernel_rfl, by kernel_rfl⟩
theorem ty93 : TyI.good Try.prog 93 ⟨.func, 1, 8, .nilFunc⟩ := ⟨⟨_, _, _, Try.underlying93⟩, Try.infoAt 93, by kernel_rfl, by kernel_rfl, by kernel_rfl, by kernel_rfl⟩
theorem ty94 : TyI.good Try.prog 94 ⟨.func, 1, 8, .nilFunc⟩ := ⟨⟨_, _, _, Try.underlying94⟩, Try.infoAt 94, by kernel_rfl, by kernel_rfl, by kernel_rfl, by kernel_rfl⟩
theorem ty95 : TyI.good Try.prog 95 ⟨.agg [(0, 28), (1, 29)], 2, 32, (.agg #[(.int .u64 0), (.slice none 0 0)])⟩ := ⟨⟨_, Try.underlying95, by kernel_rfl⟩, Try.infoAt 95, by kernel_rfl, by kernel_rfl, by kernel_rfl, by kernel_rfl⟩
theorem ty96 : TyI.good Try.prog 96 ⟨.agg [(0, 28), (1, 29)], 2, 32, (.agg #[(.int .u64 0), (.slice none 0 0)])⟩ := ⟨⟨_, Try.underlying96, by kernel_rfl⟩, Try.infoAt 96, by kernel_rfl, by kernel_rfl, by kernel_rfl, by kernel_rfl⟩
theorem ty97 : TyI.good Try.prog 97 ⟨.func, 1, 8, .nilFunc⟩ := ⟨⟨_, _, _, Try.underlying97⟩, Try.infoAt 97, by kernel_rfl, by kernel_rfl, by kernel_rfl, by kernel_rfl⟩
theorem ty98 : TyI.good Try.prog 98 ⟨.func, 1, 8, .nilFunc⟩ := ⟨⟨_, _, _, Try.underlying98⟩, Try.infoAt 98, by kernel_rfl, by kernel_rfl, by kernel_rfl, by kernel_rfl⟩
theorem ty99 : TyI.good Try.prog 99 ⟨.ptr 101, 1, 8, (.pointer none)⟩ := ⟨Try.underlying99, Try.infoAt 99, by kernel_rfl, by kernel_rfl, by kernel_rfl, by kernel_rfl⟩
theorem ty100 : TyI.good Try.prog 100 ⟨.agg [(0, 29), (1, 4)], 2, 32, (.agg #[(.slice none 0 0), (.bool false)])⟩ := ⟨⟨_, Try.underlying100, by kernel_rfl⟩, Try.infoAt 100, by kernel_rfl, by kernel_rfl, by kernel_rfl, by kernel_rfl⟩
theorem ty101 : TyI.good Try.prog 101 ⟨.agg [(0, 29), (1, 4)], 2, 32, (.agg #[(.slice none 0 0), (.bool false)])⟩ := ⟨⟨_, Try.underlying101, by kernel_rfl⟩, Try.infoAt 101, by kernel_rfl, by kernel_rfl, by kernel_rfl, by kernel_rfl⟩
theorem ty102 : TyI.good Try.prog 102 ⟨.func, 1, 8, .nilFunc⟩ := ⟨⟨_, _, _, Try.underlying102⟩, Try.infoAt 102, by kernel_rfl, by kernel_rfl, by kernel_rfl, by kernel_rfl⟩
theorem ty103 : TyI.good Try.prog 103 ⟨.func, 1, 8, .nilFunc⟩ := ⟨⟨_, _, _, Try.underlying103⟩, Try.infoAt 103, by kernel_rfl, by kernel_rfl, by kernel_rfl, by kernel_rfl⟩
theorem ty104 : TyI.good Try.prog 104 ⟨.func, 1, 8, .nilFunc⟩ := ⟨⟨_, _, _, Try.underlying104⟩, Try.infoAt 104, by kernel_rfl, by kernel_rfl, by kernel_rfl, by kernel_rfl⟩
theorem ty105 : TyI.good Try.prog 105 ⟨.func, 1, 8, .nilFunc⟩ := ⟨⟨_, _, _, Try.underlying105⟩, Try.infoAt 105, by kernel_rfl, by kernel_rfl, by kernel_rfl, by kernel_rfl⟩
theorem ty106 : TyI.good Try.prog 106 ⟨.func, 1, 8, .nilFunc⟩ := ⟨⟨_, _, _, Try.underlying106⟩, Try.infoAt 106, by kernel_rfl, by kernel_rfl, by kernel_rfl, by kernel_rfl⟩
theorem ty107 : TyI.good Try.prog 107 ⟨.func, 1, 8, .nilFunc⟩ := ⟨⟨_, _, _, Try.underlying107⟩, Try.infoAt 107, by kernel_rfl, by kernel_rfl, by kernel_rfl, by kernel_rfl⟩
theorem ty108 : TyI.good Try.prog 108 ⟨.func, 1, 8, .nilFunc⟩ := ⟨⟨_, _, _, Try.underlying108⟩, Try.infoAt 108, by kernel_rfl, by kernel_rfl, by kernel_rfl, by kernel_rfl⟩
theorem ty109 : TyI.good Try.prog 109 ⟨.func, 1, 8, .nilFunc⟩ := ⟨⟨_, _, _, Try.underlying109⟩, Try.infoAt 109, by kernel_rfl, by kernel_rfl, by kernel_rfl, by kernel_rfl⟩
theorem ty110 : TyI.good Try.prog 110 ⟨.func, 1, 8, .nilFunc⟩ := ⟨⟨_, _, _, Try.underlying110⟩, Try.infoAt 110, by kernel_rfl, by kernel_rfl, by kernel_rfl, by kernel_rfl⟩
theorem ty111 : TyI.good Try.prog 111 ⟨.func, 1, 8, .nilFunc⟩ := ⟨⟨_, _, _, Try.underlying111⟩, Try.infoAt 111, by kernel_rfl, by kernel_rfl, by kernel_rfl, by kernel_rfl⟩
theorem ty112 : TyI.good Try.prog 112 ⟨.func, 1, 8, .nilFunc⟩ := ⟨⟨_, _, _, Try.underlying112⟩, Try.infoAt 112, by kernel_rfl, by kernel_rfl, by kernel_rfl, by kernel_rfl⟩
theorem ty113 : TyI.good Try.prog 113 ⟨.func, 1, 8, .nilFunc⟩ := ⟨⟨_, _, _, Try.underlying113⟩, Try.infoAt 113, by kernel_rfl, by kernel_rfl, by kernel_rfl, by kernel_rfl⟩
theorem ty114 : TyI.good Try.prog 114 ⟨.func, 1, 8, .nilFunc⟩ := ⟨⟨_, _, _, Try.underlying114⟩, Try.infoAt 114, by kernel_rfl, by kernel_rfl, by kernel_rfl, by kernel_rfl⟩
theorem ty115 : TyI.good Try.prog 115 ⟨.int .i64, 1, 8, (.int .i64 0)⟩ := ⟨Try.underlying115, Try.infoAt 115, by kernel_rfl, by kernel_rfl, by kernel_rfl, by kernel_rfl⟩
theorem ty117 : TyI.good Try.prog 117 ⟨.func, 1, 8, .nilFunc⟩ := ⟨⟨_, _, _, Try.underlying117⟩, Try.infoAt 117, by kernel_rfl, by kernel_rfl, by kernel_rfl, by kernel_rfl⟩
theorem ty118 : TyI.good Try.prog 118 ⟨.func, 1, 8, .nilFunc⟩ := ⟨⟨_, _, _, Try.underlying118⟩, Try.infoAt 118, by kernel_rfl, by kernel_rfl, by kernel_rfl, by kernel_rfl⟩
theorem ty119 : TyI.good Try.prog 119 ⟨.func, 1, 8, .nilFunc⟩ := ⟨⟨_, _, _, Try.underlying119⟩, Try.infoAt 119, by kernel_rfl, by kernel_rfl, by kernel_rfl, by kernel_rfl⟩
theorem ty120 : TyI.good Try.prog 120 ⟨.func, 1, 8, .nilFunc⟩ := ⟨⟨_, _, _, Try.underlying120⟩, Try.infoAt 120, by kernel_rfl, by kernel_rfl, by kernel_rfl, by kernel_rfl⟩
theorem ty121 : TyI.good Try.prog 121 ⟨.func, 1, 8, .nilFunc⟩ := ⟨⟨_, _, _, Try.underlying121⟩, Try.infoAt 121, by kernel_rfl, by kernel_rfl, by kernel_rfl, by kernel_rfl⟩
theorem ty122 : TyI.good Try.prog 122 ⟨.int .u32, 1, 4, (.int .u32 0)⟩ := ⟨Try.underlying122, Try.infoAt 122, by kernel_rfl, by kernel_rfl, by kernel_rfl, by kernel_rfl⟩
theorem ty123 : TyI.good Try.prog 123 ⟨.func, 1, 8, .nilFunc⟩ := ⟨⟨_, _, _, Try.underlying123⟩, Try.infoAt 123, by kernel_rfl, by kernel_rfl, by kernel_rfl, by kernel_rfl⟩
theorem ty124 : TyI.good Try.prog 124 ⟨.int .u64, 1, 8, (.int .u64 0)⟩ := ⟨Try.underlying124, Try.infoAt 124, by kernel_rfl, by kernel_rfl, by kernel_rfl, by kernel_rfl⟩
theorem ty125 : TyI.good Try.prog 125 ⟨.func, 1, 8, .nilFunc⟩ := ⟨⟨_, _, _, Try.underlying125⟩, Try.infoAt 125, by kernel_rfl, by kernel_rfl, by kernel_rfl, by kernel_rfl⟩
theorem ty126 : TyI.good Try.prog 126 ⟨.func, 1, 8, .nilFunc⟩ := ⟨⟨_, _, _, Try.underlying126⟩, Try.infoAt 126, by kernel_rfl, by kernel_rfl, by kernel_rfl, by kernel_rfl⟩
theorem ty127 : TyI.good Try.prog 127 ⟨.func, 1, 8, .nilFunc⟩ := ⟨⟨_, _, _, Try.underlying127⟩, Try.infoAt 127, by kernel_rfl, by kernel_rfl, by kernel_rfl, by kernel_rfl⟩
theorem ty128 : TyI.good Try.prog 128 ⟨.ptr 3, 1, 8, (.pointer none)⟩ := ⟨Try.underlying128, Try.infoAt 128, by kernel_rfl, by kernel_rfl, by kernel_rfl, by kernel_rfl⟩
theorem ty129 : TyI.good Try.prog 129 ⟨.func, 1, 8, .nilFunc⟩ := ⟨⟨_, _, _, Try.underlying129⟩, Try.infoAt 129, by kernel_rfl, by kernel_rfl, by kernel_rfl, by kernel_rfl⟩
theorem ty130 : TyI.good Try.prog 130 ⟨.ptr 124, 1, 8, (.pointer none)⟩ := ⟨Try.underlying130, Try.infoAt 130, by kernel_rfl, by kernel_rfl, by kernel_rfl, by kernel_rfl⟩
theorem ty132 : TyI.good Try.prog 132 ⟨.func, 1, 8, .nilFunc⟩ := ⟨⟨_, _, _, Try.underlying132⟩, Try.infoAt 132, by kernel_rfl, by kernel_rfl, by kernel_rfl, by kernel_rfl⟩
theorem ty133 : TyI.good Try.prog 133 ⟨.func, 1, 8, .nilFunc⟩ := ⟨⟨_, _, _, Try.underlying133⟩, Try.infoAt 133, by kernel_rfl, by kernel_rfl, by kernel_rfl, by kernel_rfl⟩
theorem ty134 : TyI.good Try.prog 134 ⟨.agg [(0, 17), (1, 17), (2, 17), (3, 9)], 4, 40, (.agg #[(.pointer none), (.pointer none), (.pointer none), (.string ByteArray.empty)])⟩ := ⟨⟨_, Try.underlying134, by kernel_rfl⟩, Try.infoAt 134, by kernel_rfl, by kernel_rfl, by kernel_rfl, by kernel_rfl⟩
theorem ty135 : TyI.good Try.prog 135 ⟨.agg [(0, 17), (1, 17), (2, 17), (3, 9)], 4, 40, (.agg #[(.pointer none), (.pointer none), (.pointer none), (.string ByteArray.empty)])⟩ := ⟨⟨_, Try.underlying135, by kernel_rfl⟩, Try.infoAt 135, by kernel_rfl, by kernel_rfl, by kernel_rfl, by kernel_rfl⟩
theorem ty136 : TyI.good Try.prog 136 ⟨.arr 0 16, 0, 0, (.agg #[])⟩ := ⟨Try.underlying136, Try.infoAt 136, by kernel_rfl, by kernel_rfl, by kernel_rfl, by kernel_rfl⟩
theorem ty137 : TyI.good Try.prog 137 ⟨.agg [(0, 136)], 0, 0, (.agg #[])⟩ := ⟨⟨_, Try.underlying137, by kernel_rfl⟩, Try.infoAt 137, by kernel_rfl, by kernel_rfl, by kernel_rfl, by kernel_rfl⟩
theorem ty138 : TyI.good Try.prog 138 ⟨.agg [(0, 136)], 0, 0, (.agg #[])⟩ := ⟨⟨_, Try.underlying138, by kernel_rfl⟩, Try.infoAt 138, by kernel_rfl, by kernel_rfl, by kernel_rfl, by kernel_rfl⟩
theorem ty139 : TyI.good Try.prog 139 ⟨.int .u8, 1, 1, (.int .u8 0)⟩ := ⟨Try.underlying139, Try.infoAt 139, by kernel_rfl, by kernel_rfl, by kernel_rfl, by kernel_rfl⟩
theorem ty140 : TyI.good Try.prog 140 ⟨.int .u8, 1, 1, (.int .u8 0)⟩ := ⟨Try.underlying140, Try.infoAt 140, by kernel_rfl, by kernel_rfl, by kernel_rfl, by kernel_rfl⟩
theorem ty141 : TyI.good Try.prog 141 ⟨.func, 1, 8, .nilFunc⟩ := ⟨⟨_, _, _, Try.underlying141⟩, Try.infoAt 141, by kernel_rfl, by kernel_rfl, by kernel_rfl, by kernel_rfl⟩
theorem ty142 : TyI.good Try.prog 142 ⟨.ptr 5, 1, 8, (.pointer none)⟩ := ⟨Try.underlying142, Try.infoAt 142, by kernel_rfl, by kernel_rfl, by kernel_rfl, by kernel_rfl⟩
theorem ty143 : TyI.good Try.prog 143 ⟨.int .i32, 1, 4, (.int .i32 0)⟩ := ⟨Try.underlying143, Try.infoAt 143, by kernel_rfl, by kernel_rfl, by kernel_rfl, by kernel_rfl⟩
theorem ty144 : TyI.good Try.prog 144 ⟨.int .i32, 1, 4, (.int .i32 0)⟩ := ⟨Try.underlying144, Try.infoAt 144, by kernel_rfl, by kernel_rfl, by kernel_rfl, by kernel_rfl⟩
theorem ty145 : TyI.good Try.prog 145 ⟨.agg [(0, 12), (1, 12), (2, 122), (3, 139), (4, 5), (5, 5), (6, 140), (7, 141), (8, 142), (9, 143), (10, 144)], 11, 48, (.agg #[(.int .u64 0), (.int .u64 0), (.int .u32 0), (.int .u8 0), (.int .u8 0), (.int .u8 0), (.int .u8 0), .nilFunc, (.pointer none), (.int .i32 0), (.int .i32 0)])⟩ := ⟨⟨_, Try.underlying145, by kernel_rfl⟩, Try.infoAt 145, by kernel_rfl, by kernel_rfl, by kernel_rfl, by kernel_rfl⟩
theorem ty146 : TyI.good Try.prog 146 ⟨.agg [(0, 12), (1, 12), (2, 122), (3, 139), (4, 5), (5, 5), (6, 140), (7, 141), (8, 142), (9, 143), (10, 144)], 11, 48, (.agg #[(.int .u64 0), (.int .u64 0), (.int .u32 0), (.int .u8 0), (.int .u8 0), (.int .u8 0), (.int .u8 0), .nilFunc, (.pointer none), (.int .i32 0), (.int .i32 0)])⟩ := ⟨⟨_, Try.underlying146, by kernel_rfl⟩, Try.infoAt 146, by kernel_rfl, by kernel_rfl, by kernel_rfl, by kernel_rfl⟩
theorem tyGood : goodFrom Try.prog 0 tyTab := ⟨ty1, ty2, ty3, ty4, ty5, ty6, ty7, ty8, ty9, ty10, ty11, ty12, ty13, ty14, ty15, ty16, ty17, ty18, ty19, ty20, ty21, ty22, ty23, ty24, ty25, ty27, ty28, ty29, ty30, ty31, ty32, ty33, ty34, ty35, ty36, ty37, ty38, ty39, ty41, ty43, ty44, ty45, ty46, ty47, ty48, ty49, ty51, ty53, ty54, ty55, ty56, ty57, ty58, ty59, ty60, ty61, ty63, ty64, ty65, ty66, ty67, ty68, ty69, ty70, ty72, ty73, ty74, ty75, ty76, ty77, ty78, ty79, ty80, ty81, ty82, ty83, ty84, ty86, ty87, ty88, ty89, ty90, ty91, ty92, ty93, ty94, ty95, ty96, ty97, ty98, ty99, ty100, ty101, ty102, ty103, ty104, ty105, ty106, ty107, ty108, ty109, ty110, ty111, ty112, ty113, ty114, ty115, ty117, ty118, ty119, ty120, ty121, ty122, ty123, ty124, ty125, ty126, ty127, ty128, ty129, ty130, ty132, ty133, ty134, ty135, ty136, ty137, ty138, ty139, ty140, ty141, ty142, ty143, ty144, ty145, ty146, trivial⟩
noncomputable def env : Env := ⟨Try.prog, tyTab, fun t e h => by have := goodFrom_nth Try.prog tyTab 0 tyGood t e h; rwa [Nat.zero_add] at this, by kernel_rfl⟩
end Go.Proofs.Ytaneenahapdabaa
