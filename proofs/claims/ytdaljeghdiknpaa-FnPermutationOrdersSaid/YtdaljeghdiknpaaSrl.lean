/-
  DERIVED: THE SHELF's CONTRACTS AT THIS DUMP, IN PLAIN WORDS (tools/lay-plain.mjs out of 'YtdaljeghdiknpaaSrt0.lean', which tools/lay-shelf.mjs wrote): THE SAME DECLARATIONS UNDER THE SAME NAMES: 'import', 'namespace', 'open', 'def', 'theorem' AND NOTHING ELSE: no command of the shelf's: FOR A HAND-IN. Each laying: the table of numbers ('.._ren') and one theorem, a field a fact of the dump's own or the kernel's comparison; each contract: ONE APPLICATION.
-/
import Derived.Shelf.SortM.Plain
import Derived.Shelf.SortM.SortNone
import Derived.Test.YtdaljeghdiknpaaProg
namespace Go.Proofs
open Go.Shelf
def Ytdaljeghdiknpaa.laysSort_ren : Go.Shelf.Ren := ⟨fun | 5 => 106 | 8 => 145 | 7 => 144 | 19 => 171 | 20 => 172 | 10 => 162 | 11 => 163 | 12 => 164 | 13 => 165 | 14 => 166 | 15 => 167 | 16 => 168 | 17 => 169 | 18 => 170 | 30 => 180 | 31 => 181 | 32 => 182 | 33 => 183 | 34 => 184 | 35 => 185 | 40 => 187 | n => n, fun | 23 => 27 | 25 => 2 | 3 => 3 | 32 => 80 | 22 => 27 | 0 => 0 | 44 => 153 | 46 => 33 | 4 => 4 | 36 => 146 | 35 => 145 | 41 => 150 | 5 => 5 | 9 => 9 | 53 => 160 | 57 => 164 | 63 => 166 | 64 => 167 | n => n, fun | n => n⟩
theorem Ytdaljeghdiknpaa.laysSort : Go.Proofs.SlLaysM.n5 Try.prog Ytdaljeghdiknpaa.laysSort_ren := {
  mixed := by kernel_rfl
  f5 := ⟨Try.f106.name, by decide, Try.func106.trans (congrArg some (by kernel_rfl))⟩
  f7 := ⟨Try.f144.name, by decide, Try.func144.trans (congrArg some (by kernel_rfl))⟩
  f8 := Try.func145.trans (congrArg some (by kernel_rfl))
  f10 := ⟨Try.f162.name, by decide, Try.func162.trans (congrArg some (by kernel_rfl))⟩
  f11 := ⟨Try.f163.name, by decide, Try.func163.trans (congrArg some (by kernel_rfl))⟩
  f12 := ⟨Try.f164.name, by decide, Try.func164.trans (congrArg some (by kernel_rfl))⟩
  f13 := ⟨Try.f165.name, by decide, Try.func165.trans (congrArg some (by kernel_rfl))⟩
  f14 := ⟨Try.f166.name, by decide, Try.func166.trans (congrArg some (by kernel_rfl))⟩
  f15 := ⟨Try.f167.name, by decide, Try.func167.trans (congrArg some (by kernel_rfl))⟩
  f16 := ⟨Try.f168.name, by decide, Try.func168.trans (congrArg some (by kernel_rfl))⟩
  f17 := ⟨Try.f169.name, by decide, Try.func169.trans (congrArg some (by kernel_rfl))⟩
  f18 := ⟨Try.f170.name, by decide, Try.func170.trans (congrArg some (by kernel_rfl))⟩
  f19 := Try.func171.trans (congrArg some (by kernel_rfl))
  f20 := Try.func172.trans (congrArg some (by kernel_rfl))
  f30 := ⟨Try.f180.name, by decide, Try.func180.trans (congrArg some (by kernel_rfl))⟩
  f31 := Try.func181.trans (congrArg some (by kernel_rfl))
  f32 := Try.func182.trans (congrArg some (by kernel_rfl))
  f33 := ⟨Try.f183.name, by decide, Try.func183.trans (congrArg some (by kernel_rfl))⟩
  f34 := ⟨Try.f184.name, by decide, Try.func184.trans (congrArg some (by kernel_rfl))⟩
  f35 := ⟨Try.f185.name, by decide, Try.func185.trans (congrArg some (by kernel_rfl))⟩
  f40 := ⟨Try.f187.name, by decide, Try.func187.trans (congrArg some (by kernel_rfl))⟩
  t0 := Try.underlying0
  a0 := Try.isAgg0
  z0 := Try.sizeOf0
  v0 := Try.zeroValue0
  t3 := Try.underlying3
  a3 := Try.isAgg3
  z3 := Try.sizeOf3
  v3 := Try.zeroValue3
  t4 := Try.underlying4
  a4 := Try.isAgg4
  z4 := Try.sizeOf4
  v4 := Try.zeroValue4
  t5 := Try.underlying5
  a5 := Try.isAgg5
  z5 := Try.sizeOf5
  v5 := Try.zeroValue5
  t9 := Try.underlying9
  a9 := Try.isAgg9
  z9 := Try.sizeOf9
  v9 := Try.zeroValue9
  t22 := Try.underlying27
  a22 := Try.isAgg27
  z22 := Try.sizeOf27
  v22 := Try.zeroValue27
  t23 := Try.underlying27
  a23 := Try.isAgg27
  z23 := Try.sizeOf27
  v23 := Try.zeroValue27
  t25 := Try.underlying2
  a25 := Try.isAgg2
  z25 := Try.sizeOf2
  v25 := Try.zeroValue2
  t32 := Try.underlying80
  a32 := Try.isAgg80
  z32 := Try.sizeOf80
  v32 := Try.zeroValue80
  t35 := Try.underlying145
  a35 := Try.isAgg145
  z35 := Try.sizeOf145
  v35 := Try.zeroValue145
  t36 := Try.underlying146
  a36 := Try.isAgg146
  z36 := Try.sizeOf146
  v36 := Try.zeroValue146
  t41 := Try.underlying150
  a41 := Try.isAgg150
  z41 := Try.sizeOf150
  v41 := Try.zeroValue150
  t44 := Try.underlying153
  a44 := Try.isAgg153
  z44 := Try.sizeOf153
  v44 := Try.zeroValue153
  t46 := Try.underlying33
  a46 := Try.isAgg33
  z46 := Try.sizeOf33
  v46 := Try.zeroValue33
  t53 := Try.underlying160
  a53 := Try.isAgg160
  z53 := Try.sizeOf160
  v53 := Try.zeroValue160
  t57 := Try.underlying164
  a57 := Try.isAgg164
  z57 := Try.sizeOf164
  v57 := Try.zeroValue164
  t63 := Try.underlying166
  a63 := Try.isAgg166
  z63 := Try.sizeOf166
  v63 := Try.zeroValue166
  t64 := Try.underlying167
  a64 := Try.isAgg167
  z64 := Try.sizeOf167
  v64 := Try.zeroValue167 }
open Go.Sort Go.RowKit in
theorem Ytdaljeghdiknpaa.slices_Sort_i64 (blk off cap : Nat) (zs : List Int) (w : World) (hH : Holds (Value.int .i64) w blk off zs.toArray) (hblk : blk < w.heap.size) (hsz : zs.length < 4611686018427387904) :
    Calls Try.prog 106 #[.slice (some ⟨blk, off, none⟩) zs.length cap] w fun e w' =>
      e = .returned (.tuple #[]) ∧ ∃ n os, w' = grow (putRow (Value.int .i64) (Sort.ahead w n) blk off (zs.mergeSort fun x y => decide (x ≤ y)).toArray) os := AnyM.slices_Sort_int Ytdaljeghdiknpaa.laysSort blk off cap zs w hH hblk hsz
theorem Ytdaljeghdiknpaa.slices_Sort_i64_none (p : Option Addr) (cap : Nat) (w : World) :
    Calls Try.prog 106 #[.slice p 0 cap] w fun e w' => e = .returned (.tuple #[]) ∧ w' = w := AnyM.slices_Sort_int_none Ytdaljeghdiknpaa.laysSort p cap w
end Go.Proofs
