/- Functions of this seat with the type tables looked up; each checked by the kernel. Conditions: none. -/
import Derived.Test.YtdbkceojpeboeaaDoorProg
import Derived.Test.YtdbkceojpeboeaaDoorBaseC
namespace Go.Proofs.YtdbkceojpeboeaaDoor
open Go.Sx
set_option maxRecDepth 100000
/-- switchyard/md5.Sum -/
def x5 : YF := ⟨65, [.tmp 2],
 (.seq (.ops [⟨(some 2), none, .eff .set [.const (.string ⟨#[]⟩)]⟩])
 (.seq (.ops [⟨(some 8), none, .build [.int .u32 0, .int .u32 0, .int .u32 0, .int .u32 0] [(0, 1, .const (.int .u32 1732584193)), (1, 1, .const (.int .u32 4023233417)), (2, 1, .const (.int .u32 2562383102)), (3, 1, .const (.int .u32 271733878))]⟩, ⟨(some 3), none, .alloc 35 [.int .u32 0, .int .u32 0, .int .u32 0, .int .u32 0]⟩, ⟨none, none, .store 4 (.tmp 3) (.tmp 8)⟩])
 (.seq (.ops [⟨(some 9), none, .mov (.tmp 0)⟩, ⟨(some 10), none, .len true (.tmp 9)⟩, ⟨(some 11), none, .conv .u64 (.tmp 10)⟩, ⟨(some 12), none, .bin .mul (.tmp 11) (.const (.int .u64 8))⟩, ⟨(some 4), none, .eff .set [.tmp 12]⟩])
 (.seq (.ops [⟨(some 13), none, .mov (.tmp 0)⟩, ⟨(some 14), none, .bin .add (.tmp 13) (.const (.string ⟨#[128]⟩))⟩, ⟨(some 0), none, .eff .set [.tmp 14]⟩])
 (.seq (.ops [⟨(some 15), none, .mov (.tmp 0)⟩, ⟨(some 16), none, .mov (.tmp 0)⟩, ⟨(some 17), none, .len true (.tmp 16)⟩, ⟨(some 18), none, .bin .rem (.tmp 17) (.const (.int .i64 64))⟩, ⟨(some 19), none, .bin .sub (.const (.int .i64 120)) (.tmp 18)⟩, ⟨(some 20), none, .bin .rem (.tmp 19) (.const (.int .i64 64))⟩, ⟨(some 21), none, .call 15 [.const (.string ⟨#[0]⟩), .tmp 20]⟩, ⟨(some 22), none, .bin .add (.tmp 15) (.tmp 21)⟩, ⟨(some 0), none, .eff .set [.tmp 22]⟩])
 (.seq (.seq (.ops [⟨(some 23), none, .mov (.const (.int .i64 0))⟩])
 (.block 0 (.loop [true, false, false, false, false, true, false, false, false, false, false, false, false, false, false, false, false, false, false, false, false, false, false, true, true, true, true, true, true, true, true, true, true, true, true, true] (.seq (.ops [⟨(some 24), none, .bin .lss (.tmp 23) (.const (.int .i64 8))⟩])
 (.seq (.cond (.tmp 24) .skip (.exit 0))
 (.seq (.block 1 (.seq (.ops [⟨(some 25), none, .mov (.tmp 23)⟩, ⟨(some 5), none, .eff .set [.tmp 25]⟩])
 (.ops [⟨(some 26), none, .mov (.tmp 0)⟩, ⟨(some 27), none, .mov (.tmp 4)⟩, ⟨(some 28), none, .mov (.tmp 5)⟩, ⟨(some 29), none, .bin .mul (.const (.int .i64 8)) (.tmp 28)⟩, ⟨(some 30), none, .bin .shr (.tmp 27) (.tmp 29)⟩, ⟨(some 31), none, .conv .u8 (.tmp 30)⟩, ⟨(some 32), none, .bslice 5 1 [.int .u8 0] [(0, 1, .tmp 31)]⟩, ⟨(some 33), none, .more .b2s [.tmp 32]⟩, ⟨(some 34), none, .bin .add (.tmp 26) (.tmp 33)⟩, ⟨(some 0), none, .eff .set [.tmp 34]⟩])))
 (.ops [⟨(some 35), none, .bin .add (.tmp 23) (.const (.int .i64 1))⟩, ⟨(some 23), none, .mov (.tmp 35)⟩])))))))
 (.seq (.block 2 (.loop [true, false, false, false, false, false, false, false, false, false, false, false, false, false, false, false, false, false, false, false, false, false, false, false, false, false, false, false, false, false, false, false, false, false, false, false, true, true, true, true, true, true, true, true] (.seq (.seq (.ops [⟨(some 36), none, .mov (.tmp 0)⟩, ⟨(some 37), none, .bin .neq (.tmp 36) (.const (.string ⟨#[]⟩))⟩])
 (.cond (.tmp 37) .skip (.exit 2)))
 (.seq (.block 3 (.draw [40, 41, 42, 43] [⟨0, [], ⟨(some 40), none, .load true 4 (.tmp 3)⟩⟩, ⟨1, [], ⟨(some 41), none, .mov (.tmp 0)⟩⟩, ⟨2, [1], ⟨(some 42), none, .more (.slcT false true) [.tmp 41, .const (.int .i64 64)]⟩⟩, ⟨3, [0, 2, 1], ⟨(some 43), none, .call 16 [.tmp 40, .tmp 42]⟩⟩, ⟨4, [3, 0, 2, 1], ⟨none, none, .store 4 (.tmp 3) (.tmp 43)⟩⟩]))
 (.ops [⟨(some 38), none, .mov (.tmp 0)⟩, ⟨(some 39), none, .more (.slcT true false) [.tmp 38, .const (.int .i64 64)]⟩, ⟨(some 0), none, .eff .set [.tmp 39]⟩])))))
 (.seq (.ops [⟨(some 44), none, .prim (.makeSlice 38 (.const (.int .i64 16)) (.const (.int .i64 16))) [.const (.int .i64 16), .const (.int .i64 16)]⟩, ⟨(some 6), none, .eff .set [.tmp 44]⟩])
 (.seq (.seq (.ops [⟨(some 45), none, .mov (.tmp 6)⟩, ⟨(some 46), none, .len false (.tmp 45)⟩, ⟨(some 47), none, .mov (.const (.int .i64 0))⟩])
 (.block 4 (.loop [false, false, false, false, false, false, false, true, false, false, false, false, false, false, false, false, false, false, false, false, false, false, false, false, false, false, false, false, false, false, false, false, false, false, false, false, false, false, false, false, false, false, false, false, false, false, false, true, true, true, true, true, true, true, true, true, true, true, true, true, true, true, true] (.seq (.ops [⟨(some 48), none, .bin .lss (.tmp 47) (.tmp 46)⟩])
 (.seq (.cond (.tmp 48) .skip (.exit 4))
 (.seq (.block 5 (.seq (.ops [⟨(some 49), none, .mov (.tmp 47)⟩, ⟨(some 7), none, .eff .set [.tmp 49]⟩])
 (.ops [⟨(some 50), none, .mov (.tmp 6)⟩, ⟨(some 51), none, .mov (.tmp 7)⟩, ⟨(some 52), none, .mov (.tmp 7)⟩, ⟨(some 53), none, .bin .quo (.tmp 52) (.const (.int .i64 4))⟩, ⟨(some 54), none, .indexP 4 1 (.tmp 3) (.tmp 53)⟩, ⟨(some 55), none, .load false 1 (.tmp 54)⟩, ⟨(some 56), none, .mov (.tmp 7)⟩, ⟨(some 57), none, .bin .rem (.tmp 56) (.const (.int .i64 4))⟩, ⟨(some 58), none, .bin .mul (.const (.int .i64 8)) (.tmp 57)⟩, ⟨(some 59), none, .bin .shr (.tmp 55) (.tmp 58)⟩, ⟨(some 60), none, .conv .u8 (.tmp 59)⟩, ⟨(some 61), none, .indexS 1 (.tmp 50) (.tmp 51)⟩, ⟨none, none, .store 1 (.tmp 61) (.tmp 60)⟩])))
 (.ops [⟨(some 62), none, .bin .add (.tmp 47) (.const (.int .i64 1))⟩, ⟨(some 47), none, .mov (.tmp 62)⟩])))))))
 (.seq (.ops [⟨(some 63), none, .mov (.tmp 6)⟩, ⟨(some 64), none, .more .b2s [.tmp 63]⟩, ⟨(some 2), none, .eff .set [.tmp 64]⟩])
 .ret))))))))))⟩
theorem x5_ok : yfunc Tryd.prog Tryd.f5 = some x5 := by kernel_rfl

/-- switchyard/md5.Hmac -/
def x7 : YF := ⟨48, [.tmp 4],
 (.seq (.ops [⟨(some 4), none, .eff .set [.const (.string ⟨#[]⟩)]⟩])
 (.seq (.jn [true, false, false, false, false, false, false, false, true, true, true, true, true] (.seq (.ops [⟨(some 8), none, .mov (.tmp 0)⟩, ⟨(some 9), none, .len true (.tmp 8)⟩, ⟨(some 10), none, .bin .gtr (.tmp 9) (.const (.int .i64 64))⟩])
 (.cond (.tmp 10) (.ops [⟨(some 11), none, .mov (.tmp 0)⟩, ⟨(some 12), none, .call 5 [.tmp 11]⟩, ⟨(some 0), none, .eff .set [.tmp 12]⟩]) .skip)))
 (.seq (.jn [false, false, false, false, false, true, true, false, false, false, false, false, false, true, true] (.alts [13, 14, 5, 6] (.alt (.step ⟨0, [], ⟨(some 13), none, .prim (.makeSlice 38 (.const (.int .i64 64)) (.const (.int .i64 64))) [.const (.int .i64 64), .const (.int .i64 64)]⟩⟩ (.alt (.step ⟨1, [0], ⟨(some 14), none, .prim (.makeSlice 38 (.const (.int .i64 64)) (.const (.int .i64 64))) [.const (.int .i64 64), .const (.int .i64 64)]⟩⟩ (.step ⟨2, [1, 0], ⟨(some 5), none, .eff .set [.tmp 13]⟩⟩ (.step ⟨3, [2, 1, 0], ⟨(some 6), none, .eff .set [.tmp 14]⟩⟩ .nil)))
 (.step ⟨2, [0], ⟨(some 5), none, .eff .set [.tmp 13]⟩⟩ (.step ⟨1, [2, 0], ⟨(some 14), none, .prim (.makeSlice 38 (.const (.int .i64 64)) (.const (.int .i64 64))) [.const (.int .i64 64), .const (.int .i64 64)]⟩⟩ (.step ⟨3, [1, 2, 0], ⟨(some 6), none, .eff .set [.tmp 14]⟩⟩ .nil)))))
 (.step ⟨1, [], ⟨(some 14), none, .prim (.makeSlice 38 (.const (.int .i64 64)) (.const (.int .i64 64))) [.const (.int .i64 64), .const (.int .i64 64)]⟩⟩ (.step ⟨0, [1], ⟨(some 13), none, .prim (.makeSlice 38 (.const (.int .i64 64)) (.const (.int .i64 64))) [.const (.int .i64 64), .const (.int .i64 64)]⟩⟩ (.step ⟨2, [0, 1], ⟨(some 5), none, .eff .set [.tmp 13]⟩⟩ (.step ⟨3, [2, 0, 1], ⟨(some 6), none, .eff .set [.tmp 14]⟩⟩ .nil)))))))
 (.seq (.ops [⟨(some 15), none, .mov (.tmp 5)⟩, ⟨(some 16), none, .mov (.tmp 0)⟩, ⟨(some 17), none, .prim (.call ⟨.builtin .copy, #[.tmp 15, .tmp 16], #[38, 9]⟩) [.tmp 15, .tmp 16]⟩])
 (.seq (.ops [⟨(some 18), none, .mov (.tmp 6)⟩, ⟨(some 19), none, .mov (.tmp 0)⟩, ⟨(some 20), none, .prim (.call ⟨.builtin .copy, #[.tmp 18, .tmp 19], #[38, 9]⟩) [.tmp 18, .tmp 19]⟩])
 (.seq (.seq (.ops [⟨(some 21), none, .mov (.tmp 5)⟩, ⟨(some 22), none, .len false (.tmp 21)⟩, ⟨(some 23), none, .mov (.const (.int .i64 0))⟩])
 (.block 0 (.loop [false, false, false, false, false, false, false, true, false, false, false, false, false, false, false, false, false, false, false, false, false, false, false, true, true, true, true, true, true, true, true, true, true, true, true, true, true, true, true] (.seq (.ops [⟨(some 24), none, .bin .lss (.tmp 23) (.tmp 22)⟩])
 (.seq (.cond (.tmp 24) .skip (.exit 0))
 (.seq (.block 1 (.seq (.ops [⟨(some 25), none, .mov (.tmp 23)⟩, ⟨(some 7), none, .eff .set [.tmp 25]⟩])
 (.seq (.ops [⟨(some 26), none, .mov (.tmp 5)⟩, ⟨(some 27), none, .mov (.tmp 7)⟩, ⟨(some 28), none, .indexS 1 (.tmp 26) (.tmp 27)⟩, ⟨(some 29), none, .load false 1 (.tmp 28)⟩, ⟨(some 30), none, .bin .xor (.tmp 29) (.const (.int .u8 54))⟩, ⟨(some 31), none, .indexS 1 (.tmp 26) (.tmp 27)⟩, ⟨none, none, .store 1 (.tmp 31) (.tmp 30)⟩])
 (.ops [⟨(some 32), none, .mov (.tmp 6)⟩, ⟨(some 33), none, .mov (.tmp 7)⟩, ⟨(some 34), none, .indexS 1 (.tmp 32) (.tmp 33)⟩, ⟨(some 35), none, .load false 1 (.tmp 34)⟩, ⟨(some 36), none, .bin .xor (.tmp 35) (.const (.int .u8 92))⟩, ⟨(some 37), none, .indexS 1 (.tmp 32) (.tmp 33)⟩, ⟨none, none, .store 1 (.tmp 37) (.tmp 36)⟩]))))
 (.ops [⟨(some 38), none, .bin .add (.tmp 23) (.const (.int .i64 1))⟩, ⟨(some 23), none, .mov (.tmp 38)⟩])))))))
 (.seq (.draw [39, 40, 41, 42, 43, 44, 45, 46, 47, 4] [⟨0, [], ⟨(some 39), none, .mov (.tmp 6)⟩⟩, ⟨1, [0], ⟨(some 40), none, .more .b2s [.tmp 39]⟩⟩, ⟨2, [], ⟨(some 41), none, .mov (.tmp 5)⟩⟩, ⟨3, [2], ⟨(some 42), none, .more .b2s [.tmp 41]⟩⟩, ⟨4, [], ⟨(some 43), none, .mov (.tmp 1)⟩⟩, ⟨5, [3, 2, 4], ⟨(some 44), none, .bin .add (.tmp 42) (.tmp 43)⟩⟩, ⟨6, [5, 3, 2, 4], ⟨(some 45), none, .call 5 [.tmp 44]⟩⟩, ⟨7, [1, 0, 6, 5, 3, 2, 4], ⟨(some 46), none, .bin .add (.tmp 40) (.tmp 45)⟩⟩, ⟨8, [7, 1, 0, 6, 5, 3, 2, 4], ⟨(some 47), none, .call 5 [.tmp 46]⟩⟩, ⟨9, [8, 7, 1, 0, 6, 5, 3, 2, 4], ⟨(some 4), none, .eff .set [.tmp 47]⟩⟩])
 .ret)))))))⟩
theorem x7_ok : yfunc Tryd.prog Tryd.f7 = some (unjF x7) := by kernel_rfl
end Go.Proofs.YtdbkceojpeboeaaDoor
