/- The table of the types of the seat's translation, for the engine; printed by wip/tab.py. -/
import Derived.Test.YtikkpkckbcpjfaaEngC
import Derived.Test.YtikkpkckbcpjfaaProg
namespace Go.Proofs.Ytikkpkckbcpjfaa
open Go
noncomputable abbrev Try.infoAt (t : Nat) : TypeInfo := (Try.prog.info? t).getD default
def tyTab : List (Option TyI) := [
  none,
  some ⟨.func, 1, 8, .nilFunc⟩,
  some ⟨.int .i64, 1, 8, (.int .i64 0)⟩,
  some ⟨.int .i64, 1, 8, (.int .i64 0)⟩,
  some ⟨.bool, 1, 1, (.bool false)⟩,
  some ⟨.int .u8, 1, 1, (.int .u8 0)⟩,
  some ⟨.int .u8, 1, 1, (.int .u8 0)⟩,
  some ⟨.agg [(0, 2), (1, 3), (2, 4), (3, 6)], 4, 24, (.agg #[(.int .i64 0), (.int .i64 0), (.bool false), (.int .u8 0)])⟩,
  some ⟨.agg [(0, 2), (1, 3), (2, 4), (3, 6)], 4, 24, (.agg #[(.int .i64 0), (.int .i64 0), (.bool false), (.int .u8 0)])⟩,
  some ⟨.str, 1, 16, (.string ByteArray.empty)⟩,
  some ⟨.str, 1, 16, (.string ByteArray.empty)⟩,
  some ⟨.str, 1, 16, (.string ByteArray.empty)⟩,
  some ⟨.int .u64, 1, 8, (.int .u64 0)⟩,
  some ⟨.agg [(0, 9), (1, 12)], 2, 24, (.agg #[(.string ByteArray.empty), (.int .u64 0)])⟩,
  some ⟨.agg [(0, 9), (1, 12)], 2, 24, (.agg #[(.string ByteArray.empty), (.int .u64 0)])⟩,
  some ⟨.ptr 67, 1, 8, (.pointer none)⟩,
  some ⟨.ptr 70, 1, 8, (.pointer none)⟩,
  some ⟨.ptr 79, 1, 8, (.pointer none)⟩,
  some ⟨.agg [(0, 17)], 1, 8, (.agg #[(.pointer none)])⟩,
  some ⟨.agg [(0, 17)], 1, 8, (.agg #[(.pointer none)])⟩,
  some ⟨.iface, 1, 16, .nilIface⟩,
  some ⟨.int .i32, 1, 4, (.int .i32 0)⟩,
  some ⟨.slice 31, 1, 24, (.slice none 0 0)⟩,
  some ⟨.int .u64, 1, 8, (.int .u64 0)⟩,
  some ⟨.func, 1, 8, .nilFunc⟩,
  some ⟨.ptr 50, 1, 8, (.pointer none)⟩,
  some ⟨.int .i64, 1, 8, (.int .i64 0)⟩,
  none,
  some ⟨.func, 1, 8, .nilFunc⟩,
  some ⟨.slice 5, 1, 24, (.slice none 0 0)⟩,
  some ⟨.agg [(0, 3), (1, 23), (2, 23), (3, 29)], 4, 48, (.agg #[(.int .i64 0), (.int .u64 0), (.int .u64 0), (.slice none 0 0)])⟩,
  some ⟨.agg [(0, 3), (1, 23), (2, 23), (3, 29)], 4, 48, (.agg #[(.int .i64 0), (.int .u64 0), (.int .u64 0), (.slice none 0 0)])⟩,
  some ⟨.func, 1, 8, .nilFunc⟩,
  some ⟨.func, 1, 8, .nilFunc⟩,
  none,
  some ⟨.func, 1, 8, .nilFunc⟩,
  some ⟨.func, 1, 8, .nilFunc⟩,
  some ⟨.func, 1, 8, .nilFunc⟩,
  some ⟨.slice 41, 1, 24, (.slice none 0 0)⟩,
  some ⟨.func, 1, 8, .nilFunc⟩,
  some ⟨.agg [(0, 23), (1, 23), (2, 9), (3, 4)], 4, 40, (.agg #[(.int .u64 0), (.int .u64 0), (.string ByteArray.empty), (.bool false)])⟩,
  some ⟨.agg [(0, 23), (1, 23), (2, 9), (3, 4)], 4, 40, (.agg #[(.int .u64 0), (.int .u64 0), (.string ByteArray.empty), (.bool false)])⟩,
  some ⟨.func, 1, 8, .nilFunc⟩,
  some ⟨.func, 1, 8, .nilFunc⟩,
  some ⟨.func, 1, 8, .nilFunc⟩,
  none,
  some ⟨.func, 1, 8, .nilFunc⟩,
  some ⟨.ptr 54, 1, 8, (.pointer none)⟩,
  some ⟨.map 23 47, 1, 8, (.map none)⟩,
  some ⟨.agg [(0, 3), (1, 48)], 2, 16, (.agg #[(.int .i64 0), (.map none)])⟩,
  some ⟨.agg [(0, 3), (1, 48)], 2, 16, (.agg #[(.int .i64 0), (.map none)])⟩,
  some ⟨.map 23 29, 1, 8, (.map none)⟩,
  some ⟨.slice 23, 1, 24, (.slice none 0 0)⟩,
  some ⟨.agg [(0, 23), (1, 52), (2, 51)], 3, 40, (.agg #[(.int .u64 0), (.slice none 0 0), (.map none)])⟩,
  some ⟨.agg [(0, 23), (1, 52), (2, 51)], 3, 40, (.agg #[(.int .u64 0), (.slice none 0 0), (.map none)])⟩,
  none,
  some ⟨.func, 1, 8, .nilFunc⟩,
  some ⟨.func, 1, 8, .nilFunc⟩,
  none,
  some ⟨.int .u64, 1, 8, (.int .u64 0)⟩,
  some ⟨.func, 1, 8, .nilFunc⟩,
  some ⟨.func, 1, 8, .nilFunc⟩,
  some ⟨.func, 1, 8, .nilFunc⟩,
  some ⟨.func, 1, 8, .nilFunc⟩,
  some ⟨.func, 1, 8, .nilFunc⟩,
  some ⟨.func, 1, 8, .nilFunc⟩,
  some ⟨.agg [(0, 17), (1, 17), (2, 17), (3, 9)], 4, 40, (.agg #[(.pointer none), (.pointer none), (.pointer none), (.string ByteArray.empty)])⟩,
  some ⟨.agg [(0, 17), (1, 17), (2, 17), (3, 9)], 4, 40, (.agg #[(.pointer none), (.pointer none), (.pointer none), (.string ByteArray.empty)])⟩,
  some ⟨.arr 0 16, 0, 0, (.agg #[])⟩,
  some ⟨.agg [(0, 68)], 0, 0, (.agg #[])⟩,
  some ⟨.agg [(0, 68)], 0, 0, (.agg #[])⟩,
  some ⟨.int .u32, 1, 4, (.int .u32 0)⟩,
  some ⟨.int .u8, 1, 1, (.int .u8 0)⟩,
  some ⟨.int .u8, 1, 1, (.int .u8 0)⟩,
  some ⟨.func, 1, 8, .nilFunc⟩,
  some ⟨.ptr 5, 1, 8, (.pointer none)⟩,
  some ⟨.int .i32, 1, 4, (.int .i32 0)⟩,
  some ⟨.int .i32, 1, 4, (.int .i32 0)⟩,
  some ⟨.agg [(0, 12), (1, 12), (2, 71), (3, 72), (4, 5), (5, 5), (6, 73), (7, 74), (8, 75), (9, 76), (10, 77)], 11, 48, (.agg #[(.int .u64 0), (.int .u64 0), (.int .u32 0), (.int .u8 0), (.int .u8 0), (.int .u8 0), (.int .u8 0), .nilFunc, (.pointer none), (.int .i32 0), (.int .i32 0)])⟩,
  some ⟨.agg [(0, 12), (1, 12), (2, 71), (3, 72), (4, 5), (5, 5), (6, 73), (7, 74), (8, 75), (9, 76), (10, 77)], 11, 48, (.agg #[(.int .u64 0), (.int .u64 0), (.int .u32 0), (.int .u8 0), (.int .u8 0), (.int .u8 0), (.int .u8 0), .nilFunc, (.pointer none), (.int .i32 0), (.int .i32 0)])⟩,
  none]
theorem ty1 : TyI.good Try.prog 1 ⟨.func, 1, 8, .nilFunc⟩ := ⟨⟨_, _, _, Try.underlying1⟩, Try.infoAt 1, by kernel_rfl, by kernel_rfl, by kernel_rfl, by kernel_rfl⟩
theorem ty2 : TyI.good Try.prog 2 ⟨.int .i64, 1, 8, (.int .i64 0)⟩ := ⟨Try.underlying2, Try.infoAt 2, by kernel_rfl, by kernel_rfl, by kernel_rfl, by kernel_rfl⟩
theorem ty3 : TyI.good Try.prog 3 ⟨.int .i64, 1, 8, (.int .i64 0)⟩ := ⟨Try.underlying3, Try.infoAt 3, by kernel_rfl, by kernel_rfl, by kernel_rfl, by kernel_rfl⟩
theorem ty4 : TyI.good Try.prog 4 ⟨.bool, 1, 1, (.bool false)⟩ := ⟨Try.underlying4, Try.infoAt 4, by kernel_rfl, by kernel_rfl, by kernel_rfl, by kernel_rfl⟩
theorem ty5 : TyI.good Try.prog 5 ⟨.int .u8, 1, 1, (.int .u8 0)⟩ := ⟨Try.underlying5, Try.infoAt 5, by kernel_rfl, by kernel_rfl, by kernel_rfl, by kernel_rfl⟩
theorem ty6 : TyI.good Try.prog 6 ⟨.int .u8, 1, 1, (.int .u8 0)⟩ := ⟨Try.underlying6, Try.infoAt 6, by kernel_rfl, by kernel_rfl, by kernel_rfl, by kernel_rfl⟩
theorem ty7 : TyI.good Try.prog 7 ⟨.agg [(0, 2), (1, 3), (2, 4), (3, 6)], 4, 24, (.agg #[(.int .i64 0), (.int .i64 0), (.bool false), (.int .u8 0)])⟩ := ⟨⟨_, Try.underlying7, by kernel_rfl⟩, Try.infoAt 7, by kernel_rfl, by kernel_rfl, by kernel_rfl, by kernel_rfl⟩
theorem ty8 : TyI.good Try.prog 8 ⟨.agg [(0, 2), (1, 3), (2, 4), (3, 6)], 4, 24, (.agg #[(.int .i64 0), (.int .i64 0), (.bool false), (.int .u8 0)])⟩ := ⟨⟨_, Try.underlying8, by kernel_rfl⟩, Try.infoAt 8, by kernel_rfl, by kernel_rfl, by kernel_rfl, by kernel_rfl⟩
theorem ty9 : TyI.good Try.prog 9 ⟨.str, 1, 16, (.string ByteArray.empty)⟩ := ⟨Try.underlying9, Try.infoAt 9, by kernel_rfl, by kernel_rfl, by kernel_rfl, by kernel_rfl⟩
theorem ty10 : TyI.good Try.prog 10 ⟨.str, 1, 16, (.string ByteArray.empty)⟩ := ⟨Try.underlying10, Try.infoAt 10, by kernel_rfl, by kernel_rfl, by kernel_rfl, by kernel_rfl⟩
theorem ty11 : TyI.good Try.prog 11 ⟨.str, 1, 16, (.string ByteArray.empty)⟩ := ⟨Try.underlying11, Try.infoAt 11, by kernel_rfl, by kernel_rfl, by kernel_rfl, by kernel_rfl⟩
theorem ty12 : TyI.good Try.prog 12 ⟨.int .u64, 1, 8, (.int .u64 0)⟩ := ⟨Try.underlying12, Try.infoAt 12, by kernel_rfl, by kernel_rfl, by kernel_rfl, by kernel_rfl⟩
theorem ty13 : TyI.good Try.prog 13 ⟨.agg [(0, 9), (1, 12)], 2, 24, (.agg #[(.string ByteArray.empty), (.int .u64 0)])⟩ := ⟨⟨_, Try.underlying13, by kernel_rfl⟩, Try.infoAt 13, by kernel_rfl, by kernel_rfl, by kernel_rfl, by kernel_rfl⟩
theorem ty14 : TyI.good Try.prog 14 ⟨.agg [(0, 9), (1, 12)], 2, 24, (.agg #[(.string ByteArray.empty), (.int .u64 0)])⟩ := ⟨⟨_, Try.underlying14, by kernel_rfl⟩, Try.infoAt 14, by kernel_rfl, by kernel_rfl, by kernel_rfl, by kernel_rfl⟩
theorem ty15 : TyI.good Try.prog 15 ⟨.ptr 67, 1, 8, (.pointer none)⟩ := ⟨Try.underlying15, Try.infoAt 15, by kernel_rfl, by kernel_rfl, by kernel_rfl, by kernel_rfl⟩
theorem ty16 : TyI.good Try.prog 16 ⟨.ptr 70, 1, 8, (.pointer none)⟩ := ⟨Try.underlying16, Try.infoAt 16, by kernel_rfl, by kernel_rfl, by kernel_rfl, by kernel_rfl⟩
theorem ty17 : TyI.good Try.prog 17 ⟨.ptr 79, 1, 8, (.pointer none)⟩ := ⟨Try.underlying17, Try.infoAt 17, by kernel_rfl, by kernel_rfl, by kernel_rfl, by kernel_rfl⟩
theorem ty18 : TyI.good Try.prog 18 ⟨.agg [(0, 17)], 1, 8, (.agg #[(.pointer none)])⟩ := ⟨⟨_, Try.underlying18, by kernel_rfl⟩, Try.infoAt 18, by kernel_rfl, by kernel_rfl, by kernel_rfl, by kernel_rfl⟩
theorem ty19 : TyI.good Try.prog 19 ⟨.agg [(0, 17)], 1, 8, (.agg #[(.pointer none)])⟩ := ⟨⟨_, Try.underlying19, by kernel_rfl⟩, Try.infoAt 19, by kernel_rfl, by kernel_rfl, by kernel_rfl, by kernel_rfl⟩
theorem ty20 : TyI.good Try.prog 20 ⟨.iface, 1, 16, .nilIface⟩ := ⟨⟨_, Try.underlying20⟩, Try.infoAt 20, by kernel_rfl, by kernel_rfl, by kernel_rfl, by kernel_rfl⟩
theorem ty21 : TyI.good Try.prog 21 ⟨.int .i32, 1, 4, (.int .i32 0)⟩ := ⟨Try.underlying21, Try.infoAt 21, by kernel_rfl, by kernel_rfl, by kernel_rfl, by kernel_rfl⟩
theorem ty22 : TyI.good Try.prog 22 ⟨.slice 31, 1, 24, (.slice none 0 0)⟩ := ⟨Try.underlying22, Try.infoAt 22, by kernel_rfl, by kernel_rfl, by kernel_rfl, by kernel_rfl⟩
theorem ty23 : TyI.good Try.prog 23 ⟨.int .u64, 1, 8, (.int .u64 0)⟩ := ⟨Try.underlying23, Try.infoAt 23, by kernel_rfl, by kernel_rfl, by kernel_rfl, by kernel_rfl⟩
theorem ty24 : TyI.good Try.prog 24 ⟨.func, 1, 8, .nilFunc⟩ := ⟨⟨_, _, _, Try.underlying24⟩, Try.infoAt 24, by kernel_rfl, by kernel_rfl, by kernel_rfl, by kernel_rfl⟩
theorem ty25 : TyI.good Try.prog 25 ⟨.ptr 50, 1, 8, (.pointer none)⟩ := ⟨Try.underlying25, Try.infoAt 25, by kernel_rfl, by kernel_rfl, by kernel_rfl, by kernel_rfl⟩
theorem ty26 : TyI.good Try.prog 26 ⟨.int .i64, 1, 8, (.int .i64 0)⟩ := ⟨Try.underlying26, Try.infoAt 26, by kernel_rfl, by kernel_rfl, by kernel_rfl, by kernel_rfl⟩
theorem ty28 : TyI.good Try.prog 28 ⟨.func, 1, 8, .nilFunc⟩ := ⟨⟨_, _, _, Try.underlying28⟩, Try.infoAt 28, by kernel_rfl, by kernel_rfl, by kernel_rfl, by kernel_rfl⟩
theorem ty29 : TyI.good Try.prog 29 ⟨.slice 5, 1, 24, (.slice none 0 0)⟩ := ⟨Try.underlying29, Try.infoAt 29, by kernel_rfl, by kernel_rfl, by kernel_rfl, by kernel_rfl⟩
theorem ty30 : TyI.good Try.prog 30 ⟨.agg [(0, 3), (1, 23), (2, 23), (3, 29)], 4, 48, (.agg #[(.int .i64 0), (.int .u64 0), (.int .u64 0), (.slice none 0 0)])⟩ := ⟨⟨_, Try.underlying30, by kernel_rfl⟩, Try.infoAt 30, by kernel_rfl, by kernel_rfl, by kernel_rfl, by kernel_rfl⟩
theorem ty31 : TyI.good Try.prog 31 ⟨.agg [(0, 3), (1, 23), (2, 23), (3, 29)], 4, 48, (.agg #[(.int .i64 0), (.int .u64 0), (.int .u64 0), (.slice none 0 0)])⟩ := ⟨⟨_, Try.underlying31, by kernel_rfl⟩, Try.infoAt 31, by kernel_rfl, by kernel_rfl, by kernel_rfl, by kernel_rfl⟩
theorem ty32 : TyI.good Try.prog 32 ⟨.func, 1, 8, .nilFunc⟩ := ⟨⟨_, _, _, Try.underlying32⟩, Try.infoAt 32, by kernel_rfl, by kernel_rfl, by kernel_rfl, by kernel_rfl⟩
theorem ty33 : TyI.good Try.prog 33 ⟨.func, 1, 8, .nilFunc⟩ := ⟨⟨_, _, _, Try.underlying33⟩, Try.infoAt 33, by kernel_rfl, by kernel_rfl, by kernel_rfl, by kernel_rfl⟩
theorem ty35 : TyI.good Try.prog 35 ⟨.func, 1, 8, .nilFunc⟩ := ⟨⟨_, _, _, Try.underlying35⟩, Try.infoAt 35, by kernel_rfl, by kernel_rfl, by kernel_rfl, by kernel_rfl⟩
theorem ty36 : TyI.good Try.prog 36 ⟨.func, 1, 8, .nilFunc⟩ := ⟨⟨_, _, _, Try.underlying36⟩, Try.infoAt 36, by kernel_rfl, by kernel_rfl, by kernel_rfl, by kernel_rfl⟩
theorem ty37 : TyI.good Try.prog 37 ⟨.func, 1, 8, .nilFunc⟩ := ⟨⟨_, _, _, Try.underlying37⟩, Try.infoAt 37, by kernel_rfl, by kernel_rfl, by kernel_rfl, by kernel_rfl⟩
theorem ty38 : TyI.good Try.prog 38 ⟨.slice 41, 1, 24, (.slice none 0 0)⟩ := ⟨Try.underlying38, Try.infoAt 38, by kernel_rfl, by kernel_rfl, by kernel_rfl, by kernel_rfl⟩
theorem ty39 : TyI.good Try.prog 39 ⟨.func, 1, 8, .nilFunc⟩ := ⟨⟨_, _, _, Try.underlying39⟩, Try.infoAt 39, by kernel_rfl, by kernel_rfl, by kernel_rfl, by kernel_rfl⟩
theorem ty40 : TyI.good Try.prog 40 ⟨.agg [(0, 23), (1, 23), (2, 9), (3, 4)], 4, 40, (.agg #[(.int .u64 0), (.int .u64 0), (.string ByteArray.empty), (.bool false)])⟩ := ⟨⟨_, Try.underlying40, by kernel_rfl⟩, Try.infoAt 40, by kernel_rfl, by kernel_rfl, by kernel_rfl, by kernel_rfl⟩
theorem ty41 : TyI.good Try.prog 41 ⟨.agg [(0, 23), (1, 23), (2, 9), (3, 4)], 4, 40, (.agg #[(.int .u64 0), (.int .u64 0), (.string ByteArray.empty), (.bool false)])⟩ := ⟨⟨_, Try.underlying41, by kernel_rfl⟩, Try.infoAt 41, by kernel_rfl, by kernel_rfl, by kernel_rfl, by kernel_rfl⟩
theorem ty42 : TyI.good Try.prog 42 ⟨.func, 1, 8, .nilFunc⟩ := ⟨⟨_, _, _, Try.underlying42⟩, Try.infoAt 42, by kernel_rfl, by kernel_rfl, by kernel_rfl, by kernel_rfl⟩
theorem ty43 : TyI.good Try.prog 43 ⟨.func, 1, 8, .nilFunc⟩ := ⟨⟨_, _, _, Try.underlying43⟩, Try.infoAt 43, by kernel_rfl, by kernel_rfl, by kernel_rfl, by kernel_rfl⟩
theorem ty44 : TyI.good Try.prog 44 ⟨.func, 1, 8, .nilFunc⟩ := ⟨⟨_, _, _, Try.underlying44⟩, Try.infoAt 44, by kernel_rfl, by kernel_rfl, by kernel_rfl, by kernel_rfl⟩
theorem ty46 : TyI.good Try.prog 46 ⟨.func, 1, 8, .nilFunc⟩ := ⟨⟨_, _, _, Try.underlying46⟩, Try.infoAt 46, by kernel_rfl, by kernel_rfl, by kernel_rfl, by kernel_rfl⟩
theorem ty47 : TyI.good Try.prog 47 ⟨.ptr 54, 1, 8, (.pointer none)⟩ := ⟨Try.underlying47, Try.infoAt 47, by kernel_rfl, by kernel_rfl, by kernel_rfl, by kernel_rfl⟩
theorem ty48 : TyI.good Try.prog 48 ⟨.map 23 47, 1, 8, (.map none)⟩ := ⟨Try.underlying48, Try.infoAt 48, by kernel_rfl, by kernel_rfl, by kernel_rfl, by kernel_rfl⟩
theorem ty49 : TyI.good Try.prog 49 ⟨.agg [(0, 3), (1, 48)], 2, 16, (.agg #[(.int .i64 0), (.map none)])⟩ := ⟨⟨_, Try.underlying49, by kernel_rfl⟩, Try.infoAt 49, by kernel_rfl, by kernel_rfl, by kernel_rfl, by kernel_rfl⟩
theorem ty50 : TyI.good Try.prog 50 ⟨.agg [(0, 3), (1, 48)], 2, 16, (.agg #[(.int .i64 0), (.map none)])⟩ := ⟨⟨_, Try.underlying50, by kernel_rfl⟩, Try.infoAt 50, by kernel_rfl, by kernel_rfl, by kernel_rfl, by kernel_rfl⟩
theorem ty51 : TyI.good Try.prog 51 ⟨.map 23 29, 1, 8, (.map none)⟩ := ⟨Try.underlying51, Try.infoAt 51, by kernel_rfl, by kernel_rfl, by kernel_rfl, by kernel_rfl⟩
theorem ty52 : TyI.good Try.prog 52 ⟨.slice 23, 1, 24, (.slice none 0 0)⟩ := ⟨Try.underlying52, Try.infoAt 52, by kernel_rfl, by kernel_rfl, by kernel_rfl, by kernel_rfl⟩
theorem ty53 : TyI.good Try.prog 53 ⟨.agg [(0, 23), (1, 52), (2, 51)], 3, 40, (.agg #[(.int .u64 0), (.slice none 0 0), (.map none)])⟩ := ⟨⟨_, Try.underlying53, by kernel_rfl⟩, Try.infoAt 53, by kernel_rfl, by kernel_rfl, by kernel_rfl, by kernel_rfl⟩
theorem ty54 : TyI.good Try.prog 54 ⟨.agg [(0, 23), (1, 52), (2, 51)], 3, 40, (.agg #[(.int .u64 0), (.slice none 0 0), (.map none)])⟩ := ⟨⟨_, Try.underlying54, by kernel_rfl⟩, Try.infoAt 54, by kernel_rfl, by kernel_rfl, by kernel_rfl, by kernel_rfl⟩
theorem ty56 : TyI.good Try.prog 56 ⟨.func, 1, 8, .nilFunc⟩ := ⟨⟨_, _, _, Try.underlying56⟩, Try.infoAt 56, by kernel_rfl, by kernel_rfl, by kernel_rfl, by kernel_rfl⟩
theorem ty57 : TyI.good Try.prog 57 ⟨.func, 1, 8, .nilFunc⟩ := ⟨⟨_, _, _, Try.underlying57⟩, Try.infoAt 57, by kernel_rfl, by kernel_rfl, by kernel_rfl, by kernel_rfl⟩
theorem ty59 : TyI.good Try.prog 59 ⟨.int .u64, 1, 8, (.int .u64 0)⟩ := ⟨Try.underlying59, Try.infoAt 59, by kernel_rfl, by kernel_rfl, by kernel_rfl, by kernel_rfl⟩
theorem ty60 : TyI.good Try.prog 60 ⟨.func, 1, 8, .nilFunc⟩ := ⟨⟨_, _, _, Try.underlying60⟩, Try.infoAt 60, by kernel_rfl, by kernel_rfl, by kernel_rfl, by kernel_rfl⟩
theorem ty61 : TyI.good Try.prog 61 ⟨.func, 1, 8, .nilFunc⟩ := ⟨⟨_, _, _, Try.underlying61⟩, Try.infoAt 61, by kernel_rfl, by kernel_rfl, by kernel_rfl, by kernel_rfl⟩
theorem ty62 : TyI.good Try.prog 62 ⟨.func, 1, 8, .nilFunc⟩ := ⟨⟨_, _, _, Try.underlying62⟩, Try.infoAt 62, by kernel_rfl, by kernel_rfl, by kernel_rfl, by kernel_rfl⟩
theorem ty63 : TyI.good Try.prog 63 ⟨.func, 1, 8, .nilFunc⟩ := ⟨⟨_, _, _, Try.underlying63⟩, Try.infoAt 63, by kernel_rfl, by kernel_rfl, by kernel_rfl, by kernel_rfl⟩
theorem ty64 : TyI.good Try.prog 64 ⟨.func, 1, 8, .nilFunc⟩ := ⟨⟨_, _, _, Try.underlying64⟩, Try.infoAt 64, by kernel_rfl, by kernel_rfl, by kernel_rfl, by kernel_rfl⟩
theorem ty65 : TyI.good Try.prog 65 ⟨.func, 1, 8, .nilFunc⟩ := ⟨⟨_, _, _, Try.underlying65⟩, Try.infoAt 65, by kernel_rfl, by kernel_rfl, by kernel_rfl, by kernel_rfl⟩
theorem ty66 : TyI.good Try.prog 66 ⟨.agg [(0, 17), (1, 17), (2, 17), (3, 9)], 4, 40, (.agg #[(.pointer none), (.pointer none), (.pointer none), (.string ByteArray.empty)])⟩ := ⟨⟨_, Try.underlying66, by kernel_rfl⟩, Try.infoAt 66, by kernel_rfl, by kernel_rfl, by kernel_rfl, by kernel_rfl⟩
theorem ty67 : TyI.good Try.prog 67 ⟨.agg [(0, 17), (1, 17), (2, 17), (3, 9)], 4, 40, (.agg #[(.pointer none), (.pointer none), (.pointer none), (.string ByteArray.empty)])⟩ := ⟨⟨_, Try.underlying67, by kernel_rfl⟩, Try.infoAt 67, by kernel_rfl, by kernel_rfl, by kernel_rfl, by kernel_rfl⟩
theorem ty68 : TyI.good Try.prog 68 ⟨.arr 0 16, 0, 0, (.agg #[])⟩ := ⟨Try.underlying68, Try.infoAt 68, by kernel_rfl, by kernel_rfl, by kernel_rfl, by kernel_rfl⟩
theorem ty69 : TyI.good Try.prog 69 ⟨.agg [(0, 68)], 0, 0, (.agg #[])⟩ := ⟨⟨_, Try.underlying69, by kernel_rfl⟩, Try.infoAt 69, by kernel_rfl, by kernel_rfl, by kernel_rfl, by kernel_rfl⟩
theorem ty70 : TyI.good Try.prog 70 ⟨.agg [(0, 68)], 0, 0, (.agg #[])⟩ := ⟨⟨_, Try.underlying70, by kernel_rfl⟩, Try.infoAt 70, by kernel_rfl, by kernel_rfl, by kernel_rfl, by kernel_rfl⟩
theorem ty71 : TyI.good Try.prog 71 ⟨.int .u32, 1, 4, (.int .u32 0)⟩ := ⟨Try.underlying71, Try.infoAt 71, by kernel_rfl, by kernel_rfl, by kernel_rfl, by kernel_rfl⟩
theorem ty72 : TyI.good Try.prog 72 ⟨.int .u8, 1, 1, (.int .u8 0)⟩ := ⟨Try.underlying72, Try.infoAt 72, by kernel_rfl, by kernel_rfl, by kernel_rfl, by kernel_rfl⟩
theorem ty73 : TyI.good Try.prog 73 ⟨.int .u8, 1, 1, (.int .u8 0)⟩ := ⟨Try.underlying73, Try.infoAt 73, by kernel_rfl, by kernel_rfl, by kernel_rfl, by kernel_rfl⟩
theorem ty74 : TyI.good Try.prog 74 ⟨.func, 1, 8, .nilFunc⟩ := ⟨⟨_, _, _, Try.underlying74⟩, Try.infoAt 74, by kernel_rfl, by kernel_rfl, by kernel_rfl, by kernel_rfl⟩
theorem ty75 : TyI.good Try.prog 75 ⟨.ptr 5, 1, 8, (.pointer none)⟩ := ⟨Try.underlying75, Try.infoAt 75, by kernel_rfl, by kernel_rfl, by kernel_rfl, by kernel_rfl⟩
theorem ty76 : TyI.good Try.prog 76 ⟨.int .i32, 1, 4, (.int .i32 0)⟩ := ⟨Try.underlying76, Try.infoAt 76, by kernel_rfl, by kernel_rfl, by kernel_rfl, by kernel_rfl⟩
theorem ty77 : TyI.good Try.prog 77 ⟨.int .i32, 1, 4, (.int .i32 0)⟩ := ⟨Try.underlying77, Try.infoAt 77, by kernel_rfl, by kernel_rfl, by kernel_rfl, by kernel_rfl⟩
theorem ty78 : TyI.good Try.prog 78 ⟨.agg [(0, 12), (1, 12), (2, 71), (3, 72), (4, 5), (5, 5), (6, 73), (7, 74), (8, 75), (9, 76), (10, 77)], 11, 48, (.agg #[(.int .u64 0), (.int .u64 0), (.int .u32 0), (.int .u8 0), (.int .u8 0), (.int .u8 0), (.int .u8 0), .nilFunc, (.pointer none), (.int .i32 0), (.int .i32 0)])⟩ := ⟨⟨_, Try.underlying78, by kernel_rfl⟩, Try.infoAt 78, by kernel_rfl, by kernel_rfl, by kernel_rfl, by kernel_rfl⟩
theorem ty79 : TyI.good Try.prog 79 ⟨.agg [(0, 12), (1, 12), (2, 71), (3, 72), (4, 5), (5, 5), (6, 73), (7, 74), (8, 75), (9, 76), (10, 77)], 11, 48, (.agg #[(.int .u64 0), (.int .u64 0), (.int .u32 0), (.int .u8 0), (.int .u8 0), (.int .u8 0), (.int .u8 0), .nilFunc, (.pointer none), (.int .i32 0), (.int .i32 0)])⟩ := ⟨⟨_, Try.underlying79, by kernel_rfl⟩, Try.infoAt 79, by kernel_rfl, by kernel_rfl, by kernel_rfl, by kernel_rfl⟩
theorem tyGood : goodFrom Try.prog 0 tyTab := ⟨ty1, ty2, ty3, ty4, ty5, ty6, ty7, ty8, ty9, ty10, ty11, ty12, ty13, ty14, ty15, ty16, ty17, ty18, ty19, ty20, ty21, ty22, ty23, ty24, ty25, ty26, ty28, ty29, ty30, ty31, ty32, ty33, ty35, ty36, ty37, ty38, ty39, ty40, ty41, ty42, ty43, ty44, ty46, ty47, ty48, ty49, ty50, ty51, ty52, ty53, ty54, ty56, ty57, ty59, ty60, ty61, ty62, ty63, ty64, ty65, ty66, ty67, ty68, ty69, ty70, ty71, ty72, ty73, ty74, ty75, ty76, ty77, ty78, ty79, trivial⟩
noncomputable def env : Env := ⟨Try.prog, tyTab, fun t e h => by have := goodFrom_nth Try.prog tyTab 0 tyGood t e h; rwa [Nat.zero_add] at this, by kernel_rfl⟩
end Go.Proofs.Ytikkpkckbcpjfaa
