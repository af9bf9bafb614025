-- written by gen_tab.py (own program): types and functions of the translation
import Derived.Test.YtbbadmlekagloaaDoorShD
import Derived.Test.YtbbadmlekagloaaDoorProg
namespace Go.Proofs.YtbbadmlekagloaaDoor
open Go Go.Sh
set_option maxRecDepth 100000
namespace T
def t0 : TI := ⟨.tuple #[], 1, 0, (.tuple #[]), false⟩
def t1 : TI := ⟨.func #[] #[] false, 1, 8, .nilFunc, false⟩
def t2 : TI := ⟨.int .i64, 1, 8, (.int .i64 0), false⟩
def t3 : TI := ⟨.int .i64, 1, 8, (.int .i64 0), false⟩
def t4 : TI := ⟨.bool, 1, 1, (.bool false), false⟩
def t5 : TI := ⟨.int .u8, 1, 1, (.int .u8 0), false⟩
def t9 : TI := ⟨.string, 1, 16, (.string ⟨#[]⟩), false⟩
def t12 : TI := ⟨.int .u64, 1, 8, (.int .u64 0), false⟩
def t13 : TI := ⟨.struct #[⟨"msg", 9, 0, false, "", "runtime", 0⟩, ⟨"addr", 12, 1, false, "", "runtime", 16⟩], 2, 24, (.agg #[(.string ⟨#[]⟩), (.int .u64 0)]), false⟩
def t20 : TI := ⟨.interface #[], 1, 16, .nilIface, false⟩
def t21 : TI := ⟨.int .i32, 1, 4, (.int .i32 0), false⟩
def t22 : TI := ⟨.slice 35, 1, 24, (.slice none 0 0), false⟩
def t23 : TI := ⟨.struct #[⟨"Params", 3, 0, false, "", "", 0⟩, ⟨"Regs", 3, 1, false, "", "", 8⟩, ⟨"Slots", 3, 2, false, "", "", 16⟩, ⟨"Code", 22, 3, false, "", "", 24⟩], 4, 48, (.agg #[(.int .i64 0), (.int .i64 0), (.int .i64 0), (.slice none 0 0)]), false⟩
def t24 : TI := ⟨.struct #[⟨"Params", 3, 0, false, "", "", 0⟩, ⟨"Regs", 3, 1, false, "", "", 8⟩, ⟨"Slots", 3, 2, false, "", "", 16⟩, ⟨"Code", 22, 3, false, "", "", 24⟩], 4, 48, (.agg #[(.int .i64 0), (.int .i64 0), (.int .i64 0), (.slice none 0 0)]), false⟩
def t25 : TI := ⟨.slice 38, 1, 24, (.slice none 0 0), false⟩
def t26 : TI := ⟨.func #[24] #[25] false, 1, 8, .nilFunc, false⟩
def t27 : TI := ⟨.tuple #[24, 22], 1, 0, (.tuple #[(.agg #[(.int .i64 0), (.int .i64 0), (.int .i64 0), (.slice none 0 0)]), (.slice none 0 0)]), false⟩
def t28 : TI := ⟨.func #[24] #[24, 22] false, 1, 8, .nilFunc, false⟩
def t29 : TI := ⟨.func #[25, 25] #[4] false, 1, 8, .nilFunc, false⟩
def t30 : TI := ⟨.func #[25, 3] #[] false, 1, 8, .nilFunc, false⟩
def t31 : TI := ⟨.func #[25] #[] false, 1, 8, .nilFunc, false⟩
def t32 : TI := ⟨.func #[25, 3] #[4] false, 1, 8, .nilFunc, false⟩
def t33 : TI := ⟨.func #[24, 24] #[4] false, 1, 8, .nilFunc, false⟩
def t34 : TI := ⟨.struct #[⟨"Kind", 3, 0, false, "", "", 0⟩, ⟨"A", 3, 1, false, "", "", 8⟩, ⟨"B", 3, 2, false, "", "", 16⟩, ⟨"C", 3, 3, false, "", "", 24⟩, ⟨"K", 2, 4, false, "", "", 32⟩], 5, 40, (.agg #[(.int .i64 0), (.int .i64 0), (.int .i64 0), (.int .i64 0), (.int .i64 0)]), true⟩
def t35 : TI := ⟨.struct #[⟨"Kind", 3, 0, false, "", "", 0⟩, ⟨"A", 3, 1, false, "", "", 8⟩, ⟨"B", 3, 2, false, "", "", 16⟩, ⟨"C", 3, 3, false, "", "", 24⟩, ⟨"K", 2, 4, false, "", "", 32⟩], 5, 40, (.agg #[(.int .i64 0), (.int .i64 0), (.int .i64 0), (.int .i64 0), (.int .i64 0)]), true⟩
def t36 : TI := ⟨.func #[3] #[35] false, 1, 8, .nilFunc, false⟩
def t37 : TI := ⟨.func #[24] #[4] false, 1, 8, .nilFunc, false⟩
def t38 : TI := ⟨.slice 3, 1, 24, (.slice none 0 0), false⟩
def t39 : TI := ⟨.int .i64, 1, 8, (.int .i64 0), false⟩
def t40 : TI := ⟨.tuple #[38, 39], 1, 0, (.tuple #[(.slice none 0 0), (.int .i64 0)]), false⟩
def t41 : TI := ⟨.func #[24, 3, 3, 3] #[38, 39] false, 1, 8, .nilFunc, false⟩
def t42 : TI := ⟨.func #[24, 3, 3, 3, 38, 39] #[4] false, 1, 8, .nilFunc, false⟩
def t43 : TI := ⟨.func #[24, 3, 3, 3] #[4] false, 1, 8, .nilFunc, false⟩
def t44 : TI := ⟨.slice 24, 1, 24, (.slice none 0 0), false⟩
def t45 : TI := ⟨.struct #[⟨"Funcs", 44, 0, false, "", "", 0⟩], 1, 24, (.agg #[(.slice none 0 0)]), false⟩
def t46 : TI := ⟨.struct #[⟨"Funcs", 44, 0, false, "", "", 0⟩], 1, 24, (.agg #[(.slice none 0 0)]), false⟩
def t47 : TI := ⟨.struct #[⟨"Err", 39, 0, false, "", "", 0⟩, ⟨"Func", 3, 1, false, "", "", 8⟩, ⟨"At", 3, 2, false, "", "", 16⟩], 3, 24, (.agg #[(.int .i64 0), (.int .i64 0), (.int .i64 0)]), true⟩
def t48 : TI := ⟨.struct #[⟨"Err", 39, 0, false, "", "", 0⟩, ⟨"Func", 3, 1, false, "", "", 8⟩, ⟨"At", 3, 2, false, "", "", 16⟩], 3, 24, (.agg #[(.int .i64 0), (.int .i64 0), (.int .i64 0)]), true⟩
def t49 : TI := ⟨.func #[46] #[48] false, 1, 8, .nilFunc, false⟩
def t50 : TI := ⟨.slice 22, 1, 24, (.slice none 0 0), false⟩
def t51 : TI := ⟨.struct #[⟨"p", 46, 0, false, "", "plunder/plunderlaw5", 0⟩, ⟨"funcs", 44, 1, false, "", "plunder/plunderlaw5", 24⟩, ⟨"codes", 50, 2, false, "", "plunder/plunderlaw5", 48⟩], 3, 72, (.agg #[(.slice none 0 0), (.slice none 0 0), (.slice none 0 0)]), false⟩
def t52 : TI := ⟨.struct #[⟨"p", 46, 0, false, "", "plunder/plunderlaw5", 0⟩, ⟨"funcs", 44, 1, false, "", "plunder/plunderlaw5", 24⟩, ⟨"codes", 50, 2, false, "", "plunder/plunderlaw5", 48⟩], 3, 72, (.agg #[(.slice none 0 0), (.slice none 0 0), (.slice none 0 0)]), false⟩
def t53 : TI := ⟨.func #[46] #[52] false, 1, 8, .nilFunc, false⟩
def t54 : TI := ⟨.func #[46] #[4] false, 1, 8, .nilFunc, false⟩
def t55 : TI := ⟨.slice 4, 1, 24, (.slice none 0 0), false⟩
def t56 : TI := ⟨.func #[] #[4] false, 1, 8, .nilFunc, false⟩
def t57 : TI := ⟨.func #[3, 3] #[3] false, 1, 8, .nilFunc, false⟩
def t58 : TI := ⟨.pointer 61, 1, 8, (.pointer none), false⟩
def t59 : TI := ⟨.array 8 3, 8, 64, (.agg #[(.int .i64 0), (.int .i64 0), (.int .i64 0), (.int .i64 0), (.int .i64 0), (.int .i64 0), (.int .i64 0), (.int .i64 0)]), false⟩
def t60 : TI := ⟨.struct #[⟨"At", 3, 0, false, "", "", 0⟩, ⟨"Slots", 59, 1, false, "", "", 8⟩, ⟨"Over", 4, 9, false, "", "", 72⟩], 10, 80, (.agg #[(.int .i64 0), (.int .i64 0), (.int .i64 0), (.int .i64 0), (.int .i64 0), (.int .i64 0), (.int .i64 0), (.int .i64 0), (.int .i64 0), (.bool false)]), false⟩
def t61 : TI := ⟨.struct #[⟨"At", 3, 0, false, "", "", 0⟩, ⟨"Slots", 59, 1, false, "", "", 8⟩, ⟨"Over", 4, 9, false, "", "", 72⟩], 10, 80, (.agg #[(.int .i64 0), (.int .i64 0), (.int .i64 0), (.int .i64 0), (.int .i64 0), (.int .i64 0), (.int .i64 0), (.int .i64 0), (.int .i64 0), (.bool false)]), false⟩
def t62 : TI := ⟨.func #[46, 24, 35] #[4] false, 1, 8, .nilFunc, false⟩
def t63 : TI := ⟨.func #[35] #[4] false, 1, 8, .nilFunc, false⟩
def t64 : TI := ⟨.func #[24, 4] #[] false, 1, 8, .nilFunc, false⟩
def t65 : TI := ⟨.func #[46, 3, 55] #[4] false, 1, 8, .nilFunc, false⟩
def t66 : TI := ⟨.func #[3] #[3] false, 1, 8, .nilFunc, false⟩
def t67 : TI := ⟨.slice 2, 1, 24, (.slice none 0 0), false⟩
def t68 : TI := ⟨.tuple #[67, 39], 1, 0, (.tuple #[(.slice none 0 0), (.int .i64 0)]), false⟩
def t69 : TI := ⟨.func #[46] #[67, 39] false, 1, 8, .nilFunc, false⟩
def t70 : TI := ⟨.func #[67, 67] #[4] false, 1, 8, .nilFunc, false⟩
def t71 : TI := ⟨.func #[46, 24, 38, 3, 3, 3] #[4] false, 1, 8, .nilFunc, false⟩
def t72 : TI := ⟨.func #[46, 3, 3] #[4] false, 1, 8, .nilFunc, false⟩
def t73 : TI := ⟨.tuple #[46, 39], 1, 0, (.tuple #[(.agg #[(.slice none 0 0)]), (.int .i64 0)]), false⟩
def t74 : TI := ⟨.func #[67] #[46, 39] false, 1, 8, .nilFunc, false⟩
def t75 : TI := ⟨.func #[46, 46] #[4] false, 1, 8, .nilFunc, false⟩
def t76 : TI := ⟨.func #[67] #[4] false, 1, 8, .nilFunc, false⟩
def t77 : TI := ⟨.func #[46, 3, 2] #[4] false, 1, 8, .nilFunc, false⟩
def t78 : TI := ⟨.func #[24, 3] #[38] false, 1, 8, .nilFunc, false⟩
def t79 : TI := ⟨.func #[38, 38] #[4] false, 1, 8, .nilFunc, false⟩
def t80 : TI := ⟨.func #[24] #[24] false, 1, 8, .nilFunc, false⟩
def t81 : TI := ⟨.struct #[⟨"at", 3, 0, false, "", "plunder/prog", 0⟩, ⟨"state", 3, 1, false, "", "plunder/prog", 8⟩], 2, 16, (.agg #[(.int .i64 0), (.int .i64 0)]), true⟩
def t82 : TI := ⟨.struct #[⟨"at", 3, 0, false, "", "plunder/prog", 0⟩, ⟨"state", 3, 1, false, "", "plunder/prog", 8⟩], 2, 16, (.agg #[(.int .i64 0), (.int .i64 0)]), true⟩
def t83 : TI := ⟨.map 82 82, 1, 8, (.map none), false⟩
def t84 : TI := ⟨.func #[24, 3, 85] #[83] false, 1, 8, .nilFunc, false⟩
def t85 : TI := ⟨.func #[82] #[4] false, 1, 8, .nilFunc, false⟩
def t86 : TI := ⟨.tuple #[82, 4], 1, 0, (.tuple #[(.agg #[(.int .i64 0), (.int .i64 0)]), (.bool false)]), false⟩
def t87 : TI := ⟨.func #[3, 3] #[4] false, 1, 8, .nilFunc, false⟩
def t88 : TI := ⟨.func #[35, 3, 3] #[3] false, 1, 8, .nilFunc, false⟩
def t89 : TI := ⟨.func #[24, 35] #[4] false, 1, 8, .nilFunc, false⟩
def t90 : TI := ⟨.func #[35, 38] #[39] false, 1, 8, .nilFunc, false⟩
def t91 : TI := ⟨.struct #[⟨"fault", 48, 0, false, "", "plunder/prog", 0⟩], 3, 24, (.agg #[(.int .i64 0), (.int .i64 0), (.int .i64 0)]), true⟩
def t92 : TI := ⟨.struct #[⟨"fault", 48, 0, false, "", "plunder/prog", 0⟩], 3, 24, (.agg #[(.int .i64 0), (.int .i64 0), (.int .i64 0)]), true⟩
def t93 : TI := ⟨.func #[3, 24, 44] #[] false, 1, 8, .nilFunc, false⟩
def t94 : TI := ⟨.func #[3, 24] #[] false, 1, 8, .nilFunc, false⟩
def t95 : TI := ⟨.func #[46] #[46] false, 1, 8, .nilFunc, false⟩
def t96 : TI := ⟨.func #[46, 46] #[] false, 1, 8, .nilFunc, false⟩
def t97 : TI := ⟨.func #[46] #[67] false, 1, 8, .nilFunc, false⟩
def t98 : TI := ⟨.func #[67] #[2] false, 1, 8, .nilFunc, false⟩
def t99 : TI := ⟨.tuple #[46, 4], 1, 0, (.tuple #[(.agg #[(.slice none 0 0)]), (.bool false)]), false⟩
def t100 : TI := ⟨.func #[67] #[46, 4] false, 1, 8, .nilFunc, false⟩
def t101 : TI := ⟨.pointer 103, 1, 8, (.pointer none), false⟩
def t102 : TI := ⟨.struct #[⟨"words", 67, 0, false, "", "plunder/prog", 0⟩, ⟨"short", 4, 1, false, "", "plunder/prog", 24⟩], 2, 32, (.agg #[(.slice none 0 0), (.bool false)]), false⟩
def t103 : TI := ⟨.struct #[⟨"words", 67, 0, false, "", "plunder/prog", 0⟩, ⟨"short", 4, 1, false, "", "plunder/prog", 24⟩], 2, 32, (.agg #[(.slice none 0 0), (.bool false)]), false⟩
def t104 : TI := ⟨.func #[2] #[3] false, 1, 8, .nilFunc, false⟩
def t105 : TI := ⟨.func #[] #[24] false, 1, 8, .nilFunc, false⟩
def t106 : TI := ⟨.func #[35, 24, 44] #[4] false, 1, 8, .nilFunc, false⟩
def t107 : TI := ⟨.slice 82, 1, 24, (.slice none 0 0), false⟩
def t108 : TI := ⟨.func #[] #[2] false, 1, 8, .nilFunc, false⟩
def t109 : TI := ⟨.int .i64, 1, 8, (.int .i64 0), false⟩
def t110 : TI := ⟨.struct #[⟨"a", 109, 0, false, "", "plunder/prog", 0⟩, ⟨"b", 109, 1, false, "", "plunder/prog", 8⟩, ⟨"c", 109, 2, false, "", "plunder/prog", 16⟩, ⟨"k", 109, 3, false, "", "plunder/prog", 24⟩, ⟨"next", 4, 4, false, "", "plunder/prog", 32⟩], 5, 40, (.agg #[(.int .i64 0), (.int .i64 0), (.int .i64 0), (.int .i64 0), (.bool false)]), true⟩
def t111 : TI := ⟨.array 10 110, 50, 400, (.agg #[(.int .i64 0), (.int .i64 0), (.int .i64 0), (.int .i64 0), (.bool false), (.int .i64 0), (.int .i64 0), (.int .i64 0), (.int .i64 0), (.bool false), (.int .i64 0), (.int .i64 0), (.int .i64 0), (.int .i64 0), (.bool false), (.int .i64 0), (.int .i64 0), (.int .i64 0), (.int .i64 0), (.bool false), (.int .i64 0), (.int .i64 0), (.int .i64 0), (.int .i64 0), (.bool false), (.int .i64 0), (.int .i64 0), (.int .i64 0), (.int .i64 0), (.bool false), (.int .i64 0), (.int .i64 0), (.int .i64 0), (.int .i64 0), (.bool false), (.int .i64 0), (.int .i64 0), (.int .i64 0), (.int .i64 0), (.bool false), (.int .i64 0), (.int .i64 0), (.int .i64 0), (.int .i64 0), (.bool false), (.int .i64 0), (.int .i64 0), (.int .i64 0), (.int .i64 0), (.bool false)]), false⟩
def t112 : TI := ⟨.func #[109, 3, 24, 3] #[4] false, 1, 8, .nilFunc, false⟩
def t113 : TI := ⟨.func #[] #[9] false, 1, 8, .nilFunc, false⟩
def t119 : TI := ⟨.func #[] #[3] false, 1, 8, .nilFunc, false⟩
def t120 : TI := ⟨.int .u32, 1, 4, (.int .u32 0), false⟩
def t123 : TI := ⟨.func #[129, 129] #[4] false, 1, 8, .nilFunc, false⟩
def t124 : TI := ⟨.pointer 5, 1, 8, (.pointer none), false⟩
theorem o0 : Tryd.prog.underlying 0 = some t0.desc ∧ (Tryd.prog.info? 0).map (fun j => (j.zero, j.size, j.bytes)) = some (some t0.zero, t0.size, t0.bytes) ∧ (t0.flat = true → FlatOk Tryd.prog 0 t0) := ⟨by kernel_rfl, by kernel_rfl, fun h => absurd h (by decide)⟩
theorem o1 : Tryd.prog.underlying 1 = some t1.desc ∧ (Tryd.prog.info? 1).map (fun j => (j.zero, j.size, j.bytes)) = some (some t1.zero, t1.size, t1.bytes) ∧ (t1.flat = true → FlatOk Tryd.prog 1 t1) := ⟨by kernel_rfl, by kernel_rfl, fun h => absurd h (by decide)⟩
theorem o2 : Tryd.prog.underlying 2 = some t2.desc ∧ (Tryd.prog.info? 2).map (fun j => (j.zero, j.size, j.bytes)) = some (some t2.zero, t2.size, t2.bytes) ∧ (t2.flat = true → FlatOk Tryd.prog 2 t2) := ⟨by kernel_rfl, by kernel_rfl, fun h => absurd h (by decide)⟩
theorem o3 : Tryd.prog.underlying 3 = some t3.desc ∧ (Tryd.prog.info? 3).map (fun j => (j.zero, j.size, j.bytes)) = some (some t3.zero, t3.size, t3.bytes) ∧ (t3.flat = true → FlatOk Tryd.prog 3 t3) := ⟨by kernel_rfl, by kernel_rfl, fun h => absurd h (by decide)⟩
theorem o4 : Tryd.prog.underlying 4 = some t4.desc ∧ (Tryd.prog.info? 4).map (fun j => (j.zero, j.size, j.bytes)) = some (some t4.zero, t4.size, t4.bytes) ∧ (t4.flat = true → FlatOk Tryd.prog 4 t4) := ⟨by kernel_rfl, by kernel_rfl, fun h => absurd h (by decide)⟩
theorem o5 : Tryd.prog.underlying 5 = some t5.desc ∧ (Tryd.prog.info? 5).map (fun j => (j.zero, j.size, j.bytes)) = some (some t5.zero, t5.size, t5.bytes) ∧ (t5.flat = true → FlatOk Tryd.prog 5 t5) := ⟨by kernel_rfl, by kernel_rfl, fun h => absurd h (by decide)⟩
theorem o9 : Tryd.prog.underlying 9 = some t9.desc ∧ (Tryd.prog.info? 9).map (fun j => (j.zero, j.size, j.bytes)) = some (some t9.zero, t9.size, t9.bytes) ∧ (t9.flat = true → FlatOk Tryd.prog 9 t9) := ⟨by kernel_rfl, by kernel_rfl, fun h => absurd h (by decide)⟩
theorem o12 : Tryd.prog.underlying 12 = some t12.desc ∧ (Tryd.prog.info? 12).map (fun j => (j.zero, j.size, j.bytes)) = some (some t12.zero, t12.size, t12.bytes) ∧ (t12.flat = true → FlatOk Tryd.prog 12 t12) := ⟨by kernel_rfl, by kernel_rfl, fun h => absurd h (by decide)⟩
theorem o13 : Tryd.prog.underlying 13 = some t13.desc ∧ (Tryd.prog.info? 13).map (fun j => (j.zero, j.size, j.bytes)) = some (some t13.zero, t13.size, t13.bytes) ∧ (t13.flat = true → FlatOk Tryd.prog 13 t13) := ⟨by kernel_rfl, by kernel_rfl, fun h => absurd h (by decide)⟩
theorem o20 : Tryd.prog.underlying 20 = some t20.desc ∧ (Tryd.prog.info? 20).map (fun j => (j.zero, j.size, j.bytes)) = some (some t20.zero, t20.size, t20.bytes) ∧ (t20.flat = true → FlatOk Tryd.prog 20 t20) := ⟨by kernel_rfl, by kernel_rfl, fun h => absurd h (by decide)⟩
theorem o21 : Tryd.prog.underlying 21 = some t21.desc ∧ (Tryd.prog.info? 21).map (fun j => (j.zero, j.size, j.bytes)) = some (some t21.zero, t21.size, t21.bytes) ∧ (t21.flat = true → FlatOk Tryd.prog 21 t21) := ⟨by kernel_rfl, by kernel_rfl, fun h => absurd h (by decide)⟩
theorem o22 : Tryd.prog.underlying 22 = some t22.desc ∧ (Tryd.prog.info? 22).map (fun j => (j.zero, j.size, j.bytes)) = some (some t22.zero, t22.size, t22.bytes) ∧ (t22.flat = true → FlatOk Tryd.prog 22 t22) := ⟨by kernel_rfl, by kernel_rfl, fun h => absurd h (by decide)⟩
theorem o23 : Tryd.prog.underlying 23 = some t23.desc ∧ (Tryd.prog.info? 23).map (fun j => (j.zero, j.size, j.bytes)) = some (some t23.zero, t23.size, t23.bytes) ∧ (t23.flat = true → FlatOk Tryd.prog 23 t23) := ⟨by kernel_rfl, by kernel_rfl, fun h => absurd h (by decide)⟩
theorem o24 : Tryd.prog.underlying 24 = some t24.desc ∧ (Tryd.prog.info? 24).map (fun j => (j.zero, j.size, j.bytes)) = some (some t24.zero, t24.size, t24.bytes) ∧ (t24.flat = true → FlatOk Tryd.prog 24 t24) := ⟨by kernel_rfl, by kernel_rfl, fun h => absurd h (by decide)⟩
theorem o25 : Tryd.prog.underlying 25 = some t25.desc ∧ (Tryd.prog.info? 25).map (fun j => (j.zero, j.size, j.bytes)) = some (some t25.zero, t25.size, t25.bytes) ∧ (t25.flat = true → FlatOk Tryd.prog 25 t25) := ⟨by kernel_rfl, by kernel_rfl, fun h => absurd h (by decide)⟩
theorem o26 : Tryd.prog.underlying 26 = some t26.desc ∧ (Tryd.prog.info? 26).map (fun j => (j.zero, j.size, j.bytes)) = some (some t26.zero, t26.size, t26.bytes) ∧ (t26.flat = true → FlatOk Tryd.prog 26 t26) := ⟨by kernel_rfl, by kernel_rfl, fun h => absurd h (by decide)⟩
theorem o27 : Tryd.prog.underlying 27 = some t27.desc ∧ (Tryd.prog.info? 27).map (fun j => (j.zero, j.size, j.bytes)) = some (some t27.zero, t27.size, t27.bytes) ∧ (t27.flat = true → FlatOk Tryd.prog 27 t27) := ⟨by kernel_rfl, by kernel_rfl, fun h => absurd h (by decide)⟩
theorem o28 : Tryd.prog.underlying 28 = some t28.desc ∧ (Tryd.prog.info? 28).map (fun j => (j.zero, j.size, j.bytes)) = some (some t28.zero, t28.size, t28.bytes) ∧ (t28.flat = true → FlatOk Tryd.prog 28 t28) := ⟨by kernel_rfl, by kernel_rfl, fun h => absurd h (by decide)⟩
theorem o29 : Tryd.prog.underlying 29 = some t29.desc ∧ (Tryd.prog.info? 29).map (fun j => (j.zero, j.size, j.bytes)) = some (some t29.zero, t29.size, t29.bytes) ∧ (t29.flat = true → FlatOk Tryd.prog 29 t29) := ⟨by kernel_rfl, by kernel_rfl, fun h => absurd h (by decide)⟩
theorem o30 : Tryd.prog.underlying 30 = some t30.desc ∧ (Tryd.prog.info? 30).map (fun j => (j.zero, j.size, j.bytes)) = some (some t30.zero, t30.size, t30.bytes) ∧ (t30.flat = true → FlatOk Tryd.prog 30 t30) := ⟨by kernel_rfl, by kernel_rfl, fun h => absurd h (by decide)⟩
theorem o31 : Tryd.prog.underlying 31 = some t31.desc ∧ (Tryd.prog.info? 31).map (fun j => (j.zero, j.size, j.bytes)) = some (some t31.zero, t31.size, t31.bytes) ∧ (t31.flat = true → FlatOk Tryd.prog 31 t31) := ⟨by kernel_rfl, by kernel_rfl, fun h => absurd h (by decide)⟩
theorem o32 : Tryd.prog.underlying 32 = some t32.desc ∧ (Tryd.prog.info? 32).map (fun j => (j.zero, j.size, j.bytes)) = some (some t32.zero, t32.size, t32.bytes) ∧ (t32.flat = true → FlatOk Tryd.prog 32 t32) := ⟨by kernel_rfl, by kernel_rfl, fun h => absurd h (by decide)⟩
theorem o33 : Tryd.prog.underlying 33 = some t33.desc ∧ (Tryd.prog.info? 33).map (fun j => (j.zero, j.size, j.bytes)) = some (some t33.zero, t33.size, t33.bytes) ∧ (t33.flat = true → FlatOk Tryd.prog 33 t33) := ⟨by kernel_rfl, by kernel_rfl, fun h => absurd h (by decide)⟩
theorem o34 : Tryd.prog.underlying 34 = some t34.desc ∧ (Tryd.prog.info? 34).map (fun j => (j.zero, j.size, j.bytes)) = some (some t34.zero, t34.size, t34.bytes) ∧ (t34.flat = true → FlatOk Tryd.prog 34 t34) := ⟨by kernel_rfl, by kernel_rfl, fun _ => ⟨by kernel_rfl, by kernel_rfl, by kernel_rfl⟩⟩
theorem o35 : Tryd.prog.underlying 35 = some t35.desc ∧ (Tryd.prog.info? 35).map (fun j => (j.zero, j.size, j.bytes)) = some (some t35.zero, t35.size, t35.bytes) ∧ (t35.flat = true → FlatOk Tryd.prog 35 t35) := ⟨by kernel_rfl, by kernel_rfl, fun _ => ⟨by kernel_rfl, by kernel_rfl, by kernel_rfl⟩⟩
theorem o36 : Tryd.prog.underlying 36 = some t36.desc ∧ (Tryd.prog.info? 36).map (fun j => (j.zero, j.size, j.bytes)) = some (some t36.zero, t36.size, t36.bytes) ∧ (t36.flat = true → FlatOk Tryd.prog 36 t36) := ⟨by kernel_rfl, by kernel_rfl, fun h => absurd h (by decide)⟩
theorem o37 : Tryd.prog.underlying 37 = some t37.desc ∧ (Tryd.prog.info? 37).map (fun j => (j.zero, j.size, j.bytes)) = some (some t37.zero, t37.size, t37.bytes) ∧ (t37.flat = true → FlatOk Tryd.prog 37 t37) := ⟨by kernel_rfl, by kernel_rfl, fun h => absurd h (by decide)⟩
theorem o38 : Tryd.prog.underlying 38 = some t38.desc ∧ (Tryd.prog.info? 38).map (fun j => (j.zero, j.size, j.bytes)) = some (some t38.zero, t38.size, t38.bytes) ∧ (t38.flat = true → FlatOk Tryd.prog 38 t38) := ⟨by kernel_rfl, by kernel_rfl, fun h => absurd h (by decide)⟩
theorem o39 : Tryd.prog.underlying 39 = some t39.desc ∧ (Tryd.prog.info? 39).map (fun j => (j.zero, j.size, j.bytes)) = some (some t39.zero, t39.size, t39.bytes) ∧ (t39.flat = true → FlatOk Tryd.prog 39 t39) := ⟨by kernel_rfl, by kernel_rfl, fun h => absurd h (by decide)⟩
theorem o40 : Tryd.prog.underlying 40 = some t40.desc ∧ (Tryd.prog.info? 40).map (fun j => (j.zero, j.size, j.bytes)) = some (some t40.zero, t40.size, t40.bytes) ∧ (t40.flat = true → FlatOk Tryd.prog 40 t40) := ⟨by kernel_rfl, by kernel_rfl, fun h => absurd h (by decide)⟩
theorem o41 : Tryd.prog.underlying 41 = some t41.desc ∧ (Tryd.prog.info? 41).map (fun j => (j.zero, j.size, j.bytes)) = some (some t41.zero, t41.size, t41.bytes) ∧ (t41.flat = true → FlatOk Tryd.prog 41 t41) := ⟨by kernel_rfl, by kernel_rfl, fun h => absurd h (by decide)⟩
theorem o42 : Tryd.prog.underlying 42 = some t42.desc ∧ (Tryd.prog.info? 42).map (fun j => (j.zero, j.size, j.bytes)) = some (some t42.zero, t42.size, t42.bytes) ∧ (t42.flat = true → FlatOk Tryd.prog 42 t42) := ⟨by kernel_rfl, by kernel_rfl, fun h => absurd h (by decide)⟩
theorem o43 : Tryd.prog.underlying 43 = some t43.desc ∧ (Tryd.prog.info? 43).map (fun j => (j.zero, j.size, j.bytes)) = some (some t43.zero, t43.size, t43.bytes) ∧ (t43.flat = true → FlatOk Tryd.prog 43 t43) := ⟨by kernel_rfl, by kernel_rfl, fun h => absurd h (by decide)⟩
theorem o44 : Tryd.prog.underlying 44 = some t44.desc ∧ (Tryd.prog.info? 44).map (fun j => (j.zero, j.size, j.bytes)) = some (some t44.zero, t44.size, t44.bytes) ∧ (t44.flat = true → FlatOk Tryd.prog 44 t44) := ⟨by kernel_rfl, by kernel_rfl, fun h => absurd h (by decide)⟩
theorem o45 : Tryd.prog.underlying 45 = some t45.desc ∧ (Tryd.prog.info? 45).map (fun j => (j.zero, j.size, j.bytes)) = some (some t45.zero, t45.size, t45.bytes) ∧ (t45.flat = true → FlatOk Tryd.prog 45 t45) := ⟨by kernel_rfl, by kernel_rfl, fun h => absurd h (by decide)⟩
theorem o46 : Tryd.prog.underlying 46 = some t46.desc ∧ (Tryd.prog.info? 46).map (fun j => (j.zero, j.size, j.bytes)) = some (some t46.zero, t46.size, t46.bytes) ∧ (t46.flat = true → FlatOk Tryd.prog 46 t46) := ⟨by kernel_rfl, by kernel_rfl, fun h => absurd h (by decide)⟩
theorem o47 : Tryd.prog.underlying 47 = some t47.desc ∧ (Tryd.prog.info? 47).map (fun j => (j.zero, j.size, j.bytes)) = some (some t47.zero, t47.size, t47.bytes) ∧ (t47.flat = true → FlatOk Tryd.prog 47 t47) := ⟨by kernel_rfl, by kernel_rfl, fun _ => ⟨by kernel_rfl, by kernel_rfl, by kernel_rfl⟩⟩
theorem o48 : Tryd.prog.underlying 48 = some t48.desc ∧ (Tryd.prog.info? 48).map (fun j => (j.zero, j.size, j.bytes)) = some (some t48.zero, t48.size, t48.bytes) ∧ (t48.flat = true → FlatOk Tryd.prog 48 t48) := ⟨by kernel_rfl, by kernel_rfl, fun _ => ⟨by kernel_rfl, by kernel_rfl, by kernel_rfl⟩⟩
theorem o49 : Tryd.prog.underlying 49 = some t49.desc ∧ (Tryd.prog.info? 49).map (fun j => (j.zero, j.size, j.bytes)) = some (some t49.zero, t49.size, t49.bytes) ∧ (t49.flat = true → FlatOk Tryd.prog 49 t49) := ⟨by kernel_rfl, by kernel_rfl, fun h => absurd h (by decide)⟩
theorem o50 : Tryd.prog.underlying 50 = some t50.desc ∧ (Tryd.prog.info? 50).map (fun j => (j.zero, j.size, j.bytes)) = some (some t50.zero, t50.size, t50.bytes) ∧ (t50.flat = true → FlatOk Tryd.prog 50 t50) := ⟨by kernel_rfl, by kernel_rfl, fun h => absurd h (by decide)⟩
theorem o51 : Tryd.prog.underlying 51 = some t51.desc ∧ (Tryd.prog.info? 51).map (fun j => (j.zero, j.size, j.bytes)) = some (some t51.zero, t51.size, t51.bytes) ∧ (t51.flat = true → FlatOk Tryd.prog 51 t51) := ⟨by kernel_rfl, by kernel_rfl, fun h => absurd h (by decide)⟩
theorem o52 : Tryd.prog.underlying 52 = some t52.desc ∧ (Tryd.prog.info? 52).map (fun j => (j.zero, j.size, j.bytes)) = some (some t52.zero, t52.size, t52.bytes) ∧ (t52.flat = true → FlatOk Tryd.prog 52 t52) := ⟨by kernel_rfl, by kernel_rfl, fun h => absurd h (by decide)⟩
theorem o53 : Tryd.prog.underlying 53 = some t53.desc ∧ (Tryd.prog.info? 53).map (fun j => (j.zero, j.size, j.bytes)) = some (some t53.zero, t53.size, t53.bytes) ∧ (t53.flat = true → FlatOk Tryd.prog 53 t53) := ⟨by kernel_rfl, by kernel_rfl, fun h => absurd h (by decide)⟩
theorem o54 : Tryd.prog.underlying 54 = some t54.desc ∧ (Tryd.prog.info? 54).map (fun j => (j.zero, j.size, j.bytes)) = some (some t54.zero, t54.size, t54.bytes) ∧ (t54.flat = true → FlatOk Tryd.prog 54 t54) := ⟨by kernel_rfl, by kernel_rfl, fun h => absurd h (by decide)⟩
theorem o55 : Tryd.prog.underlying 55 = some t55.desc ∧ (Tryd.prog.info? 55).map (fun j => (j.zero, j.size, j.bytes)) = some (some t55.zero, t55.size, t55.bytes) ∧ (t55.flat = true → FlatOk Tryd.prog 55 t55) := ⟨by kernel_rfl, by kernel_rfl, fun h => absurd h (by decide)⟩
theorem o56 : Tryd.prog.underlying 56 = some t56.desc ∧ (Tryd.prog.info? 56).map (fun j => (j.zero, j.size, j.bytes)) = some (some t56.zero, t56.size, t56.bytes) ∧ (t56.flat = true → FlatOk Tryd.prog 56 t56) := ⟨by kernel_rfl, by kernel_rfl, fun h => absurd h (by decide)⟩
theorem o57 : Tryd.prog.underlying 57 = some t57.desc ∧ (Tryd.prog.info? 57).map (fun j => (j.zero, j.size, j.bytes)) = some (some t57.zero, t57.size, t57.bytes) ∧ (t57.flat = true → FlatOk Tryd.prog 57 t57) := ⟨by kernel_rfl, by kernel_rfl, fun h => absurd h (by decide)⟩
theorem o58 : Tryd.prog.underlying 58 = some t58.desc ∧ (Tryd.prog.info? 58).map (fun j => (j.zero, j.size, j.bytes)) = some (some t58.zero, t58.size, t58.bytes) ∧ (t58.flat = true → FlatOk Tryd.prog 58 t58) := ⟨by kernel_rfl, by kernel_rfl, fun h => absurd h (by decide)⟩
theorem o59 : Tryd.prog.underlying 59 = some t59.desc ∧ (Tryd.prog.info? 59).map (fun j => (j.zero, j.size, j.bytes)) = some (some t59.zero, t59.size, t59.bytes) ∧ (t59.flat = true → FlatOk Tryd.prog 59 t59) := ⟨by kernel_rfl, by kernel_rfl, fun h => absurd h (by decide)⟩
theorem o60 : Tryd.prog.underlying 60 = some t60.desc ∧ (Tryd.prog.info? 60).map (fun j => (j.zero, j.size, j.bytes)) = some (some t60.zero, t60.size, t60.bytes) ∧ (t60.flat = true → FlatOk Tryd.prog 60 t60) := ⟨by kernel_rfl, by kernel_rfl, fun h => absurd h (by decide)⟩
theorem o61 : Tryd.prog.underlying 61 = some t61.desc ∧ (Tryd.prog.info? 61).map (fun j => (j.zero, j.size, j.bytes)) = some (some t61.zero, t61.size, t61.bytes) ∧ (t61.flat = true → FlatOk Tryd.prog 61 t61) := ⟨by kernel_rfl, by kernel_rfl, fun h => absurd h (by decide)⟩
theorem o62 : Tryd.prog.underlying 62 = some t62.desc ∧ (Tryd.prog.info? 62).map (fun j => (j.zero, j.size, j.bytes)) = some (some t62.zero, t62.size, t62.bytes) ∧ (t62.flat = true → FlatOk Tryd.prog 62 t62) := ⟨by kernel_rfl, by kernel_rfl, fun h => absurd h (by decide)⟩
theorem o63 : Tryd.prog.underlying 63 = some t63.desc ∧ (Tryd.prog.info? 63).map (fun j => (j.zero, j.size, j.bytes)) = some (some t63.zero, t63.size, t63.bytes) ∧ (t63.flat = true → FlatOk Tryd.prog 63 t63) := ⟨by kernel_rfl, by kernel_rfl, fun h => absurd h (by decide)⟩
theorem o64 : Tryd.prog.underlying 64 = some t64.desc ∧ (Tryd.prog.info? 64).map (fun j => (j.zero, j.size, j.bytes)) = some (some t64.zero, t64.size, t64.bytes) ∧ (t64.flat = true → FlatOk Tryd.prog 64 t64) := ⟨by kernel_rfl, by kernel_rfl, fun h => absurd h (by decide)⟩
theorem o65 : Tryd.prog.underlying 65 = some t65.desc ∧ (Tryd.prog.info? 65).map (fun j => (j.zero, j.size, j.bytes)) = some (some t65.zero, t65.size, t65.bytes) ∧ (t65.flat = true → FlatOk Tryd.prog 65 t65) := ⟨by kernel_rfl, by kernel_rfl, fun h => absurd h (by decide)⟩
theorem o66 : Tryd.prog.underlying 66 = some t66.desc ∧ (Tryd.prog.info? 66).map (fun j => (j.zero, j.size, j.bytes)) = some (some t66.zero, t66.size, t66.bytes) ∧ (t66.flat = true → FlatOk Tryd.prog 66 t66) := ⟨by kernel_rfl, by kernel_rfl, fun h => absurd h (by decide)⟩
theorem o67 : Tryd.prog.underlying 67 = some t67.desc ∧ (Tryd.prog.info? 67).map (fun j => (j.zero, j.size, j.bytes)) = some (some t67.zero, t67.size, t67.bytes) ∧ (t67.flat = true → FlatOk Tryd.prog 67 t67) := ⟨by kernel_rfl, by kernel_rfl, fun h => absurd h (by decide)⟩
theorem o68 : Tryd.prog.underlying 68 = some t68.desc ∧ (Tryd.prog.info? 68).map (fun j => (j.zero, j.size, j.bytes)) = some (some t68.zero, t68.size, t68.bytes) ∧ (t68.flat = true → FlatOk Tryd.prog 68 t68) := ⟨by kernel_rfl, by kernel_rfl, fun h => absurd h (by decide)⟩
theorem o69 : Tryd.prog.underlying 69 = some t69.desc ∧ (Tryd.prog.info? 69).map (fun j => (j.zero, j.size, j.bytes)) = some (some t69.zero, t69.size, t69.bytes) ∧ (t69.flat = true → FlatOk Tryd.prog 69 t69) := ⟨by kernel_rfl, by kernel_rfl, fun h => absurd h (by decide)⟩
theorem o70 : Tryd.prog.underlying 70 = some t70.desc ∧ (Tryd.prog.info? 70).map (fun j => (j.zero, j.size, j.bytes)) = some (some t70.zero, t70.size, t70.bytes) ∧ (t70.flat = true → FlatOk Tryd.prog 70 t70) := ⟨by kernel_rfl, by kernel_rfl, fun h => absurd h (by decide)⟩
theorem o71 : Tryd.prog.underlying 71 = some t71.desc ∧ (Tryd.prog.info? 71).map (fun j => (j.zero, j.size, j.bytes)) = some (some t71.zero, t71.size, t71.bytes) ∧ (t71.flat = true → FlatOk Tryd.prog 71 t71) := ⟨by kernel_rfl, by kernel_rfl, fun h => absurd h (by decide)⟩
theorem o72 : Tryd.prog.underlying 72 = some t72.desc ∧ (Tryd.prog.info? 72).map (fun j => (j.zero, j.size, j.bytes)) = some (some t72.zero, t72.size, t72.bytes) ∧ (t72.flat = true → FlatOk Tryd.prog 72 t72) := ⟨by kernel_rfl, by kernel_rfl, fun h => absurd h (by decide)⟩
theorem o73 : Tryd.prog.underlying 73 = some t73.desc ∧ (Tryd.prog.info? 73).map (fun j => (j.zero, j.size, j.bytes)) = some (some t73.zero, t73.size, t73.bytes) ∧ (t73.flat = true → FlatOk Tryd.prog 73 t73) := ⟨by kernel_rfl, by kernel_rfl, fun h => absurd h (by decide)⟩
theorem o74 : Tryd.prog.underlying 74 = some t74.desc ∧ (Tryd.prog.info? 74).map (fun j => (j.zero, j.size, j.bytes)) = some (some t74.zero, t74.size, t74.bytes) ∧ (t74.flat = true → FlatOk Tryd.prog 74 t74) := ⟨by kernel_rfl, by kernel_rfl, fun h => absurd h (by decide)⟩
theorem o75 : Tryd.prog.underlying 75 = some t75.desc ∧ (Tryd.prog.info? 75).map (fun j => (j.zero, j.size, j.bytes)) = some (some t75.zero, t75.size, t75.bytes) ∧ (t75.flat = true → FlatOk Tryd.prog 75 t75) := ⟨by kernel_rfl, by kernel_rfl, fun h => absurd h (by decide)⟩
theorem o76 : Tryd.prog.underlying 76 = some t76.desc ∧ (Tryd.prog.info? 76).map (fun j => (j.zero, j.size, j.bytes)) = some (some t76.zero, t76.size, t76.bytes) ∧ (t76.flat = true → FlatOk Tryd.prog 76 t76) := ⟨by kernel_rfl, by kernel_rfl, fun h => absurd h (by decide)⟩
theorem o77 : Tryd.prog.underlying 77 = some t77.desc ∧ (Tryd.prog.info? 77).map (fun j => (j.zero, j.size, j.bytes)) = some (some t77.zero, t77.size, t77.bytes) ∧ (t77.flat = true → FlatOk Tryd.prog 77 t77) := ⟨by kernel_rfl, by kernel_rfl, fun h => absurd h (by decide)⟩
theorem o78 : Tryd.prog.underlying 78 = some t78.desc ∧ (Tryd.prog.info? 78).map (fun j => (j.zero, j.size, j.bytes)) = some (some t78.zero, t78.size, t78.bytes) ∧ (t78.flat = true → FlatOk Tryd.prog 78 t78) := ⟨by kernel_rfl, by kernel_rfl, fun h => absurd h (by decide)⟩
theorem o79 : Tryd.prog.underlying 79 = some t79.desc ∧ (Tryd.prog.info? 79).map (fun j => (j.zero, j.size, j.bytes)) = some (some t79.zero, t79.size, t79.bytes) ∧ (t79.flat = true → FlatOk Tryd.prog 79 t79) := ⟨by kernel_rfl, by kernel_rfl, fun h => absurd h (by decide)⟩
theorem o80 : Tryd.prog.underlying 80 = some t80.desc ∧ (Tryd.prog.info? 80).map (fun j => (j.zero, j.size, j.bytes)) = some (some t80.zero, t80.size, t80.bytes) ∧ (t80.flat = true → FlatOk Tryd.prog 80 t80) := ⟨by kernel_rfl, by kernel_rfl, fun h => absurd h (by decide)⟩
theorem o81 : Tryd.prog.underlying 81 = some t81.desc ∧ (Tryd.prog.info? 81).map (fun j => (j.zero, j.size, j.bytes)) = some (some t81.zero, t81.size, t81.bytes) ∧ (t81.flat = true → FlatOk Tryd.prog 81 t81) := ⟨by kernel_rfl, by kernel_rfl, fun _ => ⟨by kernel_rfl, by kernel_rfl, by kernel_rfl⟩⟩
theorem o82 : Tryd.prog.underlying 82 = some t82.desc ∧ (Tryd.prog.info? 82).map (fun j => (j.zero, j.size, j.bytes)) = some (some t82.zero, t82.size, t82.bytes) ∧ (t82.flat = true → FlatOk Tryd.prog 82 t82) := ⟨by kernel_rfl, by kernel_rfl, fun _ => ⟨by kernel_rfl, by kernel_rfl, by kernel_rfl⟩⟩
theorem o83 : Tryd.prog.underlying 83 = some t83.desc ∧ (Tryd.prog.info? 83).map (fun j => (j.zero, j.size, j.bytes)) = some (some t83.zero, t83.size, t83.bytes) ∧ (t83.flat = true → FlatOk Tryd.prog 83 t83) := ⟨by kernel_rfl, by kernel_rfl, fun h => absurd h (by decide)⟩
theorem o84 : Tryd.prog.underlying 84 = some t84.desc ∧ (Tryd.prog.info? 84).map (fun j => (j.zero, j.size, j.bytes)) = some (some t84.zero, t84.size, t84.bytes) ∧ (t84.flat = true → FlatOk Tryd.prog 84 t84) := ⟨by kernel_rfl, by kernel_rfl, fun h => absurd h (by decide)⟩
theorem o85 : Tryd.prog.underlying 85 = some t85.desc ∧ (Tryd.prog.info? 85).map (fun j => (j.zero, j.size, j.bytes)) = some (some t85.zero, t85.size, t85.bytes) ∧ (t85.flat = true → FlatOk Tryd.prog 85 t85) := ⟨by kernel_rfl, by kernel_rfl, fun h => absurd h (by decide)⟩
theorem o86 : Tryd.prog.underlying 86 = some t86.desc ∧ (Tryd.prog.info? 86).map (fun j => (j.zero, j.size, j.bytes)) = some (some t86.zero, t86.size, t86.bytes) ∧ (t86.flat = true → FlatOk Tryd.prog 86 t86) := ⟨by kernel_rfl, by kernel_rfl, fun h => absurd h (by decide)⟩
theorem o87 : Tryd.prog.underlying 87 = some t87.desc ∧ (Tryd.prog.info? 87).map (fun j => (j.zero, j.size, j.bytes)) = some (some t87.zero, t87.size, t87.bytes) ∧ (t87.flat = true → FlatOk Tryd.prog 87 t87) := ⟨by kernel_rfl, by kernel_rfl, fun h => absurd h (by decide)⟩
theorem o88 : Tryd.prog.underlying 88 = some t88.desc ∧ (Tryd.prog.info? 88).map (fun j => (j.zero, j.size, j.bytes)) = some (some t88.zero, t88.size, t88.bytes) ∧ (t88.flat = true → FlatOk Tryd.prog 88 t88) := ⟨by kernel_rfl, by kernel_rfl, fun h => absurd h (by decide)⟩
theorem o89 : Tryd.prog.underlying 89 = some t89.desc ∧ (Tryd.prog.info? 89).map (fun j => (j.zero, j.size, j.bytes)) = some (some t89.zero, t89.size, t89.bytes) ∧ (t89.flat = true → FlatOk Tryd.prog 89 t89) := ⟨by kernel_rfl, by kernel_rfl, fun h => absurd h (by decide)⟩
theorem o90 : Tryd.prog.underlying 90 = some t90.desc ∧ (Tryd.prog.info? 90).map (fun j => (j.zero, j.size, j.bytes)) = some (some t90.zero, t90.size, t90.bytes) ∧ (t90.flat = true → FlatOk Tryd.prog 90 t90) := ⟨by kernel_rfl, by kernel_rfl, fun h => absurd h (by decide)⟩
theorem o91 : Tryd.prog.underlying 91 = some t91.desc ∧ (Tryd.prog.info? 91).map (fun j => (j.zero, j.size, j.bytes)) = some (some t91.zero, t91.size, t91.bytes) ∧ (t91.flat = true → FlatOk Tryd.prog 91 t91) := ⟨by kernel_rfl, by kernel_rfl, fun _ => ⟨by kernel_rfl, by kernel_rfl, by kernel_rfl⟩⟩
theorem o92 : Tryd.prog.underlying 92 = some t92.desc ∧ (Tryd.prog.info? 92).map (fun j => (j.zero, j.size, j.bytes)) = some (some t92.zero, t92.size, t92.bytes) ∧ (t92.flat = true → FlatOk Tryd.prog 92 t92) := ⟨by kernel_rfl, by kernel_rfl, fun _ => ⟨by kernel_rfl, by kernel_rfl, by kernel_rfl⟩⟩
theorem o93 : Tryd.prog.underlying 93 = some t93.desc ∧ (Tryd.prog.info? 93).map (fun j => (j.zero, j.size, j.bytes)) = some (some t93.zero, t93.size, t93.bytes) ∧ (t93.flat = true → FlatOk Tryd.prog 93 t93) := ⟨by kernel_rfl, by kernel_rfl, fun h => absurd h (by decide)⟩
theorem o94 : Tryd.prog.underlying 94 = some t94.desc ∧ (Tryd.prog.info? 94).map (fun j => (j.zero, j.size, j.bytes)) = some (some t94.zero, t94.size, t94.bytes) ∧ (t94.flat = true → FlatOk Tryd.prog 94 t94) := ⟨by kernel_rfl, by kernel_rfl, fun h => absurd h (by decide)⟩
theorem o95 : Tryd.prog.underlying 95 = some t95.desc ∧ (Tryd.prog.info? 95).map (fun j => (j.zero, j.size, j.bytes)) = some (some t95.zero, t95.size, t95.bytes) ∧ (t95.flat = true → FlatOk Tryd.prog 95 t95) := ⟨by kernel_rfl, by kernel_rfl, fun h => absurd h (by decide)⟩
theorem o96 : Tryd.prog.underlying 96 = some t96.desc ∧ (Tryd.prog.info? 96).map (fun j => (j.zero, j.size, j.bytes)) = some (some t96.zero, t96.size, t96.bytes) ∧ (t96.flat = true → FlatOk Tryd.prog 96 t96) := ⟨by kernel_rfl, by kernel_rfl, fun h => absurd h (by decide)⟩
theorem o97 : Tryd.prog.underlying 97 = some t97.desc ∧ (Tryd.prog.info? 97).map (fun j => (j.zero, j.size, j.bytes)) = some (some t97.zero, t97.size, t97.bytes) ∧ (t97.flat = true → FlatOk Tryd.prog 97 t97) := ⟨by kernel_rfl, by kernel_rfl, fun h => absurd h (by decide)⟩
theorem o98 : Tryd.prog.underlying 98 = some t98.desc ∧ (Tryd.prog.info? 98).map (fun j => (j.zero, j.size, j.bytes)) = some (some t98.zero, t98.size, t98.bytes) ∧ (t98.flat = true → FlatOk Tryd.prog 98 t98) := ⟨by kernel_rfl, by kernel_rfl, fun h => absurd h (by decide)⟩
theorem o99 : Tryd.prog.underlying 99 = some t99.desc ∧ (Tryd.prog.info? 99).map (fun j => (j.zero, j.size, j.bytes)) = some (some t99.zero, t99.size, t99.bytes) ∧ (t99.flat = true → FlatOk Tryd.prog 99 t99) := ⟨by kernel_rfl, by kernel_rfl, fun h => absurd h (by decide)⟩
theorem o100 : Tryd.prog.underlying 100 = some t100.desc ∧ (Tryd.prog.info? 100).map (fun j => (j.zero, j.size, j.bytes)) = some (some t100.zero, t100.size, t100.bytes) ∧ (t100.flat = true → FlatOk Tryd.prog 100 t100) := ⟨by kernel_rfl, by kernel_rfl, fun h => absurd h (by decide)⟩
theorem o101 : Tryd.prog.underlying 101 = some t101.desc ∧ (Tryd.prog.info? 101).map (fun j => (j.zero, j.size, j.bytes)) = some (some t101.zero, t101.size, t101.bytes) ∧ (t101.flat = true → FlatOk Tryd.prog 101 t101) := ⟨by kernel_rfl, by kernel_rfl, fun h => absurd h (by decide)⟩
theorem o102 : Tryd.prog.underlying 102 = some t102.desc ∧ (Tryd.prog.info? 102).map (fun j => (j.zero, j.size, j.bytes)) = some (some t102.zero, t102.size, t102.bytes) ∧ (t102.flat = true → FlatOk Tryd.prog 102 t102) := ⟨by kernel_rfl, by kernel_rfl, fun h => absurd h (by decide)⟩
theorem o103 : Tryd.prog.underlying 103 = some t103.desc ∧ (Tryd.prog.info? 103).map (fun j => (j.zero, j.size, j.bytes)) = some (some t103.zero, t103.size, t103.bytes) ∧ (t103.flat = true → FlatOk Tryd.prog 103 t103) := ⟨by kernel_rfl, by kernel_rfl, fun h => absurd h (by decide)⟩
theorem o104 : Tryd.prog.underlying 104 = some t104.desc ∧ (Tryd.prog.info? 104).map (fun j => (j.zero, j.size, j.bytes)) = some (some t104.zero, t104.size, t104.bytes) ∧ (t104.flat = true → FlatOk Tryd.prog 104 t104) := ⟨by kernel_rfl, by kernel_rfl, fun h => absurd h (by decide)⟩
theorem o105 : Tryd.prog.underlying 105 = some t105.desc ∧ (Tryd.prog.info? 105).map (fun j => (j.zero, j.size, j.bytes)) = some (some t105.zero, t105.size, t105.bytes) ∧ (t105.flat = true → FlatOk Tryd.prog 105 t105) := ⟨by kernel_rfl, by kernel_rfl, fun h => absurd h (by decide)⟩
theorem o106 : Tryd.prog.underlying 106 = some t106.desc ∧ (Tryd.prog.info? 106).map (fun j => (j.zero, j.size, j.bytes)) = some (some t106.zero, t106.size, t106.bytes) ∧ (t106.flat = true → FlatOk Tryd.prog 106 t106) := ⟨by kernel_rfl, by kernel_rfl, fun h => absurd h (by decide)⟩
theorem o107 : Tryd.prog.underlying 107 = some t107.desc ∧ (Tryd.prog.info? 107).map (fun j => (j.zero, j.size, j.bytes)) = some (some t107.zero, t107.size, t107.bytes) ∧ (t107.flat = true → FlatOk Tryd.prog 107 t107) := ⟨by kernel_rfl, by kernel_rfl, fun h => absurd h (by decide)⟩
theorem o108 : Tryd.prog.underlying 108 = some t108.desc ∧ (Tryd.prog.info? 108).map (fun j => (j.zero, j.size, j.bytes)) = some (some t108.zero, t108.size, t108.bytes) ∧ (t108.flat = true → FlatOk Tryd.prog 108 t108) := ⟨by kernel_rfl, by kernel_rfl, fun h => absurd h (by decide)⟩
theorem o109 : Tryd.prog.underlying 109 = some t109.desc ∧ (Tryd.prog.info? 109).map (fun j => (j.zero, j.size, j.bytes)) = some (some t109.zero, t109.size, t109.bytes) ∧ (t109.flat = true → FlatOk Tryd.prog 109 t109) := ⟨by kernel_rfl, by kernel_rfl, fun h => absurd h (by decide)⟩
theorem o110 : Tryd.prog.underlying 110 = some t110.desc ∧ (Tryd.prog.info? 110).map (fun j => (j.zero, j.size, j.bytes)) = some (some t110.zero, t110.size, t110.bytes) ∧ (t110.flat = true → FlatOk Tryd.prog 110 t110) := ⟨by kernel_rfl, by kernel_rfl, fun _ => ⟨by kernel_rfl, by kernel_rfl, by kernel_rfl⟩⟩
theorem o111 : Tryd.prog.underlying 111 = some t111.desc ∧ (Tryd.prog.info? 111).map (fun j => (j.zero, j.size, j.bytes)) = some (some t111.zero, t111.size, t111.bytes) ∧ (t111.flat = true → FlatOk Tryd.prog 111 t111) := ⟨by kernel_rfl, by kernel_rfl, fun h => absurd h (by decide)⟩
theorem o112 : Tryd.prog.underlying 112 = some t112.desc ∧ (Tryd.prog.info? 112).map (fun j => (j.zero, j.size, j.bytes)) = some (some t112.zero, t112.size, t112.bytes) ∧ (t112.flat = true → FlatOk Tryd.prog 112 t112) := ⟨by kernel_rfl, by kernel_rfl, fun h => absurd h (by decide)⟩
theorem o113 : Tryd.prog.underlying 113 = some t113.desc ∧ (Tryd.prog.info? 113).map (fun j => (j.zero, j.size, j.bytes)) = some (some t113.zero, t113.size, t113.bytes) ∧ (t113.flat = true → FlatOk Tryd.prog 113 t113) := ⟨by kernel_rfl, by kernel_rfl, fun h => absurd h (by decide)⟩
theorem o119 : Tryd.prog.underlying 119 = some t119.desc ∧ (Tryd.prog.info? 119).map (fun j => (j.zero, j.size, j.bytes)) = some (some t119.zero, t119.size, t119.bytes) ∧ (t119.flat = true → FlatOk Tryd.prog 119 t119) := ⟨by kernel_rfl, by kernel_rfl, fun h => absurd h (by decide)⟩
theorem o120 : Tryd.prog.underlying 120 = some t120.desc ∧ (Tryd.prog.info? 120).map (fun j => (j.zero, j.size, j.bytes)) = some (some t120.zero, t120.size, t120.bytes) ∧ (t120.flat = true → FlatOk Tryd.prog 120 t120) := ⟨by kernel_rfl, by kernel_rfl, fun h => absurd h (by decide)⟩
theorem o123 : Tryd.prog.underlying 123 = some t123.desc ∧ (Tryd.prog.info? 123).map (fun j => (j.zero, j.size, j.bytes)) = some (some t123.zero, t123.size, t123.bytes) ∧ (t123.flat = true → FlatOk Tryd.prog 123 t123) := ⟨by kernel_rfl, by kernel_rfl, fun h => absurd h (by decide)⟩
theorem o124 : Tryd.prog.underlying 124 = some t124.desc ∧ (Tryd.prog.info? 124).map (fun j => (j.zero, j.size, j.bytes)) = some (some t124.zero, t124.size, t124.bytes) ∧ (t124.flat = true → FlatOk Tryd.prog 124 t124) := ⟨by kernel_rfl, by kernel_rfl, fun h => absurd h (by decide)⟩
def ts : List (Nat × TI) := [(0, t0), (1, t1), (2, t2), (3, t3), (4, t4), (5, t5), (9, t9), (12, t12), (13, t13), (20, t20), (21, t21), (22, t22), (23, t23), (24, t24), (25, t25), (26, t26), (27, t27), (28, t28), (29, t29), (30, t30), (31, t31), (32, t32), (33, t33), (34, t34), (35, t35), (36, t36), (37, t37), (38, t38), (39, t39), (40, t40), (41, t41), (42, t42), (43, t43), (44, t44), (45, t45), (46, t46), (47, t47), (48, t48), (49, t49), (50, t50), (51, t51), (52, t52), (53, t53), (54, t54), (55, t55), (56, t56), (57, t57), (58, t58), (59, t59), (60, t60), (61, t61), (62, t62), (63, t63), (64, t64), (65, t65), (66, t66), (67, t67), (68, t68), (69, t69), (70, t70), (71, t71), (72, t72), (73, t73), (74, t74), (75, t75), (76, t76), (77, t77), (78, t78), (79, t79), (80, t80), (81, t81), (82, t82), (83, t83), (84, t84), (85, t85), (86, t86), (87, t87), (88, t88), (89, t89), (90, t90), (91, t91), (92, t92), (93, t93), (94, t94), (95, t95), (96, t96), (97, t97), (98, t98), (99, t99), (100, t100), (101, t101), (102, t102), (103, t103), (104, t104), (105, t105), (106, t106), (107, t107), (108, t108), (109, t109), (110, t110), (111, t111), (112, t112), (113, t113), (119, t119), (120, t120), (123, t123), (124, t124)]
theorem ts_ok : TabOkT Tryd.prog ts := by
  refine ⟨o0, o1, o2, o3, o4, o5, o9, o12, o13, o20, o21, o22, o23, o24, o25, o26, o27, o28, o29, o30, o31, o32, o33, o34, o35, o36, o37, o38, o39, o40, o41, o42, o43, o44, o45, o46, o47, o48, o49, o50, o51, o52, o53, o54, o55, o56, o57, o58, o59, o60, o61, o62, o63, o64, o65, o66, o67, o68, o69, o70, o71, o72, o73, o74, o75, o76, o77, o78, o79, o80, o81, o82, o83, o84, o85, o86, o87, o88, o89, o90, o91, o92, o93, o94, o95, o96, o97, o98, o99, o100, o101, o102, o103, o104, o105, o106, o107, o108, o109, o110, o111, o112, o113, o119, o120, o123, o124, trivial⟩
theorem g3 : IsGo Tryd.prog 3 := ⟨Tryd.f3, Tryd.func3, by kernel_rfl, by kernel_rfl⟩
theorem g4 : IsGo Tryd.prog 4 := ⟨Tryd.f4, Tryd.func4, by kernel_rfl, by kernel_rfl⟩
theorem g5 : IsGo Tryd.prog 5 := ⟨Tryd.f5, Tryd.func5, by kernel_rfl, by kernel_rfl⟩
theorem g6 : IsGo Tryd.prog 6 := ⟨Tryd.f6, Tryd.func6, by kernel_rfl, by kernel_rfl⟩
theorem g7 : IsGo Tryd.prog 7 := ⟨Tryd.f7, Tryd.func7, by kernel_rfl, by kernel_rfl⟩
theorem g8 : IsGo Tryd.prog 8 := ⟨Tryd.f8, Tryd.func8, by kernel_rfl, by kernel_rfl⟩
theorem g9 : IsGo Tryd.prog 9 := ⟨Tryd.f9, Tryd.func9, by kernel_rfl, by kernel_rfl⟩
theorem g10 : IsGo Tryd.prog 10 := ⟨Tryd.f10, Tryd.func10, by kernel_rfl, by kernel_rfl⟩
theorem g11 : IsGo Tryd.prog 11 := ⟨Tryd.f11, Tryd.func11, by kernel_rfl, by kernel_rfl⟩
theorem g12 : IsGo Tryd.prog 12 := ⟨Tryd.f12, Tryd.func12, by kernel_rfl, by kernel_rfl⟩
theorem g13 : IsGo Tryd.prog 13 := ⟨Tryd.f13, Tryd.func13, by kernel_rfl, by kernel_rfl⟩
theorem g14 : IsGo Tryd.prog 14 := ⟨Tryd.f14, Tryd.func14, by kernel_rfl, by kernel_rfl⟩
theorem g15 : IsGo Tryd.prog 15 := ⟨Tryd.f15, Tryd.func15, by kernel_rfl, by kernel_rfl⟩
theorem g16 : IsGo Tryd.prog 16 := ⟨Tryd.f16, Tryd.func16, by kernel_rfl, by kernel_rfl⟩
theorem g17 : IsGo Tryd.prog 17 := ⟨Tryd.f17, Tryd.func17, by kernel_rfl, by kernel_rfl⟩
theorem g18 : IsGo Tryd.prog 18 := ⟨Tryd.f18, Tryd.func18, by kernel_rfl, by kernel_rfl⟩
theorem g19 : IsGo Tryd.prog 19 := ⟨Tryd.f19, Tryd.func19, by kernel_rfl, by kernel_rfl⟩
theorem g20 : IsGo Tryd.prog 20 := ⟨Tryd.f20, Tryd.func20, by kernel_rfl, by kernel_rfl⟩
theorem g21 : IsGo Tryd.prog 21 := ⟨Tryd.f21, Tryd.func21, by kernel_rfl, by kernel_rfl⟩
theorem g22 : IsGo Tryd.prog 22 := ⟨Tryd.f22, Tryd.func22, by kernel_rfl, by kernel_rfl⟩
theorem g23 : IsGo Tryd.prog 23 := ⟨Tryd.f23, Tryd.func23, by kernel_rfl, by kernel_rfl⟩
theorem g24 : IsGo Tryd.prog 24 := ⟨Tryd.f24, Tryd.func24, by kernel_rfl, by kernel_rfl⟩
theorem g25 : IsGo Tryd.prog 25 := ⟨Tryd.f25, Tryd.func25, by kernel_rfl, by kernel_rfl⟩
theorem g26 : IsGo Tryd.prog 26 := ⟨Tryd.f26, Tryd.func26, by kernel_rfl, by kernel_rfl⟩
theorem g27 : IsGo Tryd.prog 27 := ⟨Tryd.f27, Tryd.func27, by kernel_rfl, by kernel_rfl⟩
theorem g28 : IsGo Tryd.prog 28 := ⟨Tryd.f28, Tryd.func28, by kernel_rfl, by kernel_rfl⟩
theorem g29 : IsGo Tryd.prog 29 := ⟨Tryd.f29, Tryd.func29, by kernel_rfl, by kernel_rfl⟩
theorem g30 : IsGo Tryd.prog 30 := ⟨Tryd.f30, Tryd.func30, by kernel_rfl, by kernel_rfl⟩
theorem g31 : IsGo Tryd.prog 31 := ⟨Tryd.f31, Tryd.func31, by kernel_rfl, by kernel_rfl⟩
theorem g32 : IsGo Tryd.prog 32 := ⟨Tryd.f32, Tryd.func32, by kernel_rfl, by kernel_rfl⟩
theorem g33 : IsGo Tryd.prog 33 := ⟨Tryd.f33, Tryd.func33, by kernel_rfl, by kernel_rfl⟩
theorem g34 : IsGo Tryd.prog 34 := ⟨Tryd.f34, Tryd.func34, by kernel_rfl, by kernel_rfl⟩
theorem g35 : IsGo Tryd.prog 35 := ⟨Tryd.f35, Tryd.func35, by kernel_rfl, by kernel_rfl⟩
theorem g36 : IsGo Tryd.prog 36 := ⟨Tryd.f36, Tryd.func36, by kernel_rfl, by kernel_rfl⟩
theorem g37 : IsGo Tryd.prog 37 := ⟨Tryd.f37, Tryd.func37, by kernel_rfl, by kernel_rfl⟩
theorem g38 : IsGo Tryd.prog 38 := ⟨Tryd.f38, Tryd.func38, by kernel_rfl, by kernel_rfl⟩
theorem g39 : IsGo Tryd.prog 39 := ⟨Tryd.f39, Tryd.func39, by kernel_rfl, by kernel_rfl⟩
theorem g40 : IsGo Tryd.prog 40 := ⟨Tryd.f40, Tryd.func40, by kernel_rfl, by kernel_rfl⟩
theorem g41 : IsGo Tryd.prog 41 := ⟨Tryd.f41, Tryd.func41, by kernel_rfl, by kernel_rfl⟩
theorem g42 : IsGo Tryd.prog 42 := ⟨Tryd.f42, Tryd.func42, by kernel_rfl, by kernel_rfl⟩
theorem g43 : IsGo Tryd.prog 43 := ⟨Tryd.f43, Tryd.func43, by kernel_rfl, by kernel_rfl⟩
theorem g44 : IsGo Tryd.prog 44 := ⟨Tryd.f44, Tryd.func44, by kernel_rfl, by kernel_rfl⟩
theorem g45 : IsGo Tryd.prog 45 := ⟨Tryd.f45, Tryd.func45, by kernel_rfl, by kernel_rfl⟩
theorem g46 : IsGo Tryd.prog 46 := ⟨Tryd.f46, Tryd.func46, by kernel_rfl, by kernel_rfl⟩
theorem g47 : IsGo Tryd.prog 47 := ⟨Tryd.f47, Tryd.func47, by kernel_rfl, by kernel_rfl⟩
theorem g48 : IsGo Tryd.prog 48 := ⟨Tryd.f48, Tryd.func48, by kernel_rfl, by kernel_rfl⟩
theorem g49 : IsGo Tryd.prog 49 := ⟨Tryd.f49, Tryd.func49, by kernel_rfl, by kernel_rfl⟩
theorem g50 : IsGo Tryd.prog 50 := ⟨Tryd.f50, Tryd.func50, by kernel_rfl, by kernel_rfl⟩
theorem g51 : IsGo Tryd.prog 51 := ⟨Tryd.f51, Tryd.func51, by kernel_rfl, by kernel_rfl⟩
theorem g52 : IsGo Tryd.prog 52 := ⟨Tryd.f52, Tryd.func52, by kernel_rfl, by kernel_rfl⟩
theorem g53 : IsGo Tryd.prog 53 := ⟨Tryd.f53, Tryd.func53, by kernel_rfl, by kernel_rfl⟩
theorem g54 : IsGo Tryd.prog 54 := ⟨Tryd.f54, Tryd.func54, by kernel_rfl, by kernel_rfl⟩
theorem g55 : IsGo Tryd.prog 55 := ⟨Tryd.f55, Tryd.func55, by kernel_rfl, by kernel_rfl⟩
theorem g56 : IsGo Tryd.prog 56 := ⟨Tryd.f56, Tryd.func56, by kernel_rfl, by kernel_rfl⟩
theorem g57 : IsGo Tryd.prog 57 := ⟨Tryd.f57, Tryd.func57, by kernel_rfl, by kernel_rfl⟩
theorem g58 : IsGo Tryd.prog 58 := ⟨Tryd.f58, Tryd.func58, by kernel_rfl, by kernel_rfl⟩
theorem g59 : IsGo Tryd.prog 59 := ⟨Tryd.f59, Tryd.func59, by kernel_rfl, by kernel_rfl⟩
theorem g60 : IsGo Tryd.prog 60 := ⟨Tryd.f60, Tryd.func60, by kernel_rfl, by kernel_rfl⟩
theorem g61 : IsGo Tryd.prog 61 := ⟨Tryd.f61, Tryd.func61, by kernel_rfl, by kernel_rfl⟩
theorem g62 : IsGo Tryd.prog 62 := ⟨Tryd.f62, Tryd.func62, by kernel_rfl, by kernel_rfl⟩
theorem g63 : IsGo Tryd.prog 63 := ⟨Tryd.f63, Tryd.func63, by kernel_rfl, by kernel_rfl⟩
theorem g64 : IsGo Tryd.prog 64 := ⟨Tryd.f64, Tryd.func64, by kernel_rfl, by kernel_rfl⟩
theorem g65 : IsGo Tryd.prog 65 := ⟨Tryd.f65, Tryd.func65, by kernel_rfl, by kernel_rfl⟩
theorem g66 : IsGo Tryd.prog 66 := ⟨Tryd.f66, Tryd.func66, by kernel_rfl, by kernel_rfl⟩
theorem g67 : IsGo Tryd.prog 67 := ⟨Tryd.f67, Tryd.func67, by kernel_rfl, by kernel_rfl⟩
theorem g68 : IsGo Tryd.prog 68 := ⟨Tryd.f68, Tryd.func68, by kernel_rfl, by kernel_rfl⟩
theorem g69 : IsGo Tryd.prog 69 := ⟨Tryd.f69, Tryd.func69, by kernel_rfl, by kernel_rfl⟩
theorem g70 : IsGo Tryd.prog 70 := ⟨Tryd.f70, Tryd.func70, by kernel_rfl, by kernel_rfl⟩
theorem g71 : IsGo Tryd.prog 71 := ⟨Tryd.f71, Tryd.func71, by kernel_rfl, by kernel_rfl⟩
theorem g72 : IsGo Tryd.prog 72 := ⟨Tryd.f72, Tryd.func72, by kernel_rfl, by kernel_rfl⟩
theorem g73 : IsGo Tryd.prog 73 := ⟨Tryd.f73, Tryd.func73, by kernel_rfl, by kernel_rfl⟩
theorem g74 : IsGo Tryd.prog 74 := ⟨Tryd.f74, Tryd.func74, by kernel_rfl, by kernel_rfl⟩
theorem g75 : IsGo Tryd.prog 75 := ⟨Tryd.f75, Tryd.func75, by kernel_rfl, by kernel_rfl⟩
theorem g76 : IsGo Tryd.prog 76 := ⟨Tryd.f76, Tryd.func76, by kernel_rfl, by kernel_rfl⟩
theorem g77 : IsGo Tryd.prog 77 := ⟨Tryd.f77, Tryd.func77, by kernel_rfl, by kernel_rfl⟩
theorem g78 : IsGo Tryd.prog 78 := ⟨Tryd.f78, Tryd.func78, by kernel_rfl, by kernel_rfl⟩
theorem g79 : IsGo Tryd.prog 79 := ⟨Tryd.f79, Tryd.func79, by kernel_rfl, by kernel_rfl⟩
theorem g80 : IsGo Tryd.prog 80 := ⟨Tryd.f80, Tryd.func80, by kernel_rfl, by kernel_rfl⟩
theorem g81 : IsGo Tryd.prog 81 := ⟨Tryd.f81, Tryd.func81, by kernel_rfl, by kernel_rfl⟩
theorem g82 : IsGo Tryd.prog 82 := ⟨Tryd.f82, Tryd.func82, by kernel_rfl, by kernel_rfl⟩
def fs : List Nat := [3, 4, 5, 6, 7, 8, 9, 10, 11, 12, 13, 14, 15, 16, 17, 18, 19, 20, 21, 22, 23, 24, 25, 26, 27, 28, 29, 30, 31, 32, 33, 34, 35, 36, 37, 38, 39, 40, 41, 42, 43, 44, 45, 46, 47, 48, 49, 50, 51, 52, 53, 54, 55, 56, 57, 58, 59, 60, 61, 62, 63, 64, 65, 66, 67, 68, 69, 70, 71, 72, 73, 74, 75, 76, 77, 78, 79, 80, 81, 82]
theorem fs_ok : TabOkF Tryd.prog fs := ⟨g3, g4, g5, g6, g7, g8, g9, g10, g11, g12, g13, g14, g15, g16, g17, g18, g19, g20, g21, g22, g23, g24, g25, g26, g27, g28, g29, g30, g31, g32, g33, g34, g35, g36, g37, g38, g39, g40, g41, g42, g43, g44, g45, g46, g47, g48, g49, g50, g51, g52, g53, g54, g55, g56, g57, g58, g59, g60, g61, g62, g63, g64, g65, g66, g67, g68, g69, g70, g71, g72, g73, g74, g75, g76, g77, g78, g79, g80, g81, g82, trivial⟩
def tb : Tab := ⟨ts, fs⟩
theorem ok : TabOk Tryd.prog tb := ⟨ts_ok, fs_ok⟩
end T
end Go.Proofs.YtbbadmlekagloaaDoor
