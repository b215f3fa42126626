import Derived.Test.YthhaoojgfbofnaaProg
import Derived.Test.YthhaoojgfbofnaaEng17
namespace Go.Proofs.Ythhaoojgfbofnaa.E
open Go.RowKit
theorem tok2 : tok Try.prog 2 = true := by kernel_rfl
theorem tsz2 : tsz Try.prog 2 = 1 := by kernel_rfl
theorem tagg2 : tagg Try.prog 2 = false := by kernel_rfl
theorem telem2 : telem Try.prog 2 = none := by kernel_rfl
theorem tarr2 : tarr Try.prog 2 = none := by kernel_rfl
theorem tbool2 : tbool Try.prog 2 = false := by kernel_rfl
theorem tbytes2 : tbytes Try.prog 2 = 8 := by kernel_rfl
theorem tint2 : tint Try.prog 2 = some IntKind.i64 := by kernel_rfl
theorem zeros2 : zeros Try.prog 2 = some [Ce.dt (Dt.lit (Value.int IntKind.i64 (0)))] := by kernel_rfl
theorem tzl2 : (tzero Try.prog 2).map List.length = some 1 := by kernel_rfl
theorem und2 : (Try.prog.underlying 2).isSome = true := by kernel_rfl
theorem tok3 : tok Try.prog 3 = true := by kernel_rfl
theorem tsz3 : tsz Try.prog 3 = 1 := by kernel_rfl
theorem tagg3 : tagg Try.prog 3 = false := by kernel_rfl
theorem telem3 : telem Try.prog 3 = none := by kernel_rfl
theorem tarr3 : tarr Try.prog 3 = none := by kernel_rfl
theorem tbool3 : tbool Try.prog 3 = false := by kernel_rfl
theorem tbytes3 : tbytes Try.prog 3 = 8 := by kernel_rfl
theorem tint3 : tint Try.prog 3 = some IntKind.i64 := by kernel_rfl
theorem zeros3 : zeros Try.prog 3 = some [Ce.dt (Dt.lit (Value.int IntKind.i64 (0)))] := by kernel_rfl
theorem tzl3 : (tzero Try.prog 3).map List.length = some 1 := by kernel_rfl
theorem und3 : (Try.prog.underlying 3).isSome = true := by kernel_rfl
theorem tok4 : tok Try.prog 4 = true := by kernel_rfl
theorem tsz4 : tsz Try.prog 4 = 1 := by kernel_rfl
theorem tagg4 : tagg Try.prog 4 = false := by kernel_rfl
theorem telem4 : telem Try.prog 4 = none := by kernel_rfl
theorem tarr4 : tarr Try.prog 4 = none := by kernel_rfl
theorem tbool4 : tbool Try.prog 4 = true := by kernel_rfl
theorem tbytes4 : tbytes Try.prog 4 = 1 := by kernel_rfl
theorem tint4 : tint Try.prog 4 = none := by kernel_rfl
theorem zeros4 : zeros Try.prog 4 = some [Ce.dt (Dt.lit (Value.bool false))] := by kernel_rfl
theorem tzl4 : (tzero Try.prog 4).map List.length = some 1 := by kernel_rfl
theorem und4 : (Try.prog.underlying 4).isSome = true := by kernel_rfl
theorem tok5 : tok Try.prog 5 = true := by kernel_rfl
theorem tsz5 : tsz Try.prog 5 = 1 := by kernel_rfl
theorem tagg5 : tagg Try.prog 5 = false := by kernel_rfl
theorem telem5 : telem Try.prog 5 = none := by kernel_rfl
theorem tarr5 : tarr Try.prog 5 = none := by kernel_rfl
theorem tbool5 : tbool Try.prog 5 = false := by kernel_rfl
theorem tbytes5 : tbytes Try.prog 5 = 1 := by kernel_rfl
theorem tint5 : tint Try.prog 5 = some IntKind.u8 := by kernel_rfl
theorem zeros5 : zeros Try.prog 5 = some [Ce.dt (Dt.lit (Value.int IntKind.u8 (0)))] := by kernel_rfl
theorem tzl5 : (tzero Try.prog 5).map List.length = some 1 := by kernel_rfl
theorem und5 : (Try.prog.underlying 5).isSome = true := by kernel_rfl
theorem tok22 : tok Try.prog 22 = true := by kernel_rfl
theorem tsz22 : tsz Try.prog 22 = 1 := by kernel_rfl
theorem tagg22 : tagg Try.prog 22 = false := by kernel_rfl
theorem telem22 : telem Try.prog 22 = some 3 := by kernel_rfl
theorem tarr22 : tarr Try.prog 22 = none := by kernel_rfl
theorem tbool22 : tbool Try.prog 22 = false := by kernel_rfl
theorem tbytes22 : tbytes Try.prog 22 = 24 := by kernel_rfl
theorem tint22 : tint Try.prog 22 = none := by kernel_rfl
theorem zeros22 : zeros Try.prog 22 = some [Ce.z] := by kernel_rfl
theorem tzl22 : (tzero Try.prog 22).map List.length = some 1 := by kernel_rfl
theorem und22 : (Try.prog.underlying 22).isSome = true := by kernel_rfl
theorem tok24 : tok Try.prog 24 = true := by kernel_rfl
theorem tsz24 : tsz Try.prog 24 = 2 := by kernel_rfl
theorem tagg24 : tagg Try.prog 24 = true := by kernel_rfl
theorem telem24 : telem Try.prog 24 = none := by kernel_rfl
theorem tarr24 : tarr Try.prog 24 = none := by kernel_rfl
theorem tbool24 : tbool Try.prog 24 = false := by kernel_rfl
theorem tbytes24 : tbytes Try.prog 24 = 48 := by kernel_rfl
theorem tint24 : tint Try.prog 24 = none := by kernel_rfl
theorem zeros24 : zeros Try.prog 24 = some [Ce.z, Ce.z] := by kernel_rfl
theorem tzl24 : (tzero Try.prog 24).map List.length = some 2 := by kernel_rfl
theorem und24 : (Try.prog.underlying 24).isSome = true := by kernel_rfl
theorem tpls24 : (tplaces Try.prog 24).isSome = true := by kernel_rfl
theorem foff0_24 : foff Try.prog 24 0 = some 0 := by kernel_rfl
theorem tpl0_24 : tplace Try.prog 24 0 = some (0, 1) := by kernel_rfl
theorem foff1_24 : foff Try.prog 24 1 = some 1 := by kernel_rfl
theorem tpl1_24 : tplace Try.prog 24 1 = some (1, 1) := by kernel_rfl
theorem tok25 : tok Try.prog 25 = true := by kernel_rfl
theorem tsz25 : tsz Try.prog 25 = 1 := by kernel_rfl
theorem tagg25 : tagg Try.prog 25 = false := by kernel_rfl
theorem telem25 : telem Try.prog 25 = none := by kernel_rfl
theorem tarr25 : tarr Try.prog 25 = none := by kernel_rfl
theorem tbool25 : tbool Try.prog 25 = false := by kernel_rfl
theorem tbytes25 : tbytes Try.prog 25 = 8 := by kernel_rfl
theorem tint25 : tint Try.prog 25 = some IntKind.i64 := by kernel_rfl
theorem zeros25 : zeros Try.prog 25 = some [Ce.dt (Dt.lit (Value.int IntKind.i64 (0)))] := by kernel_rfl
theorem tzl25 : (tzero Try.prog 25).map List.length = some 1 := by kernel_rfl
theorem und25 : (Try.prog.underlying 25).isSome = true := by kernel_rfl
theorem tok30 : tok Try.prog 30 = true := by kernel_rfl
theorem tsz30 : tsz Try.prog 30 = 1 := by kernel_rfl
theorem tagg30 : tagg Try.prog 30 = false := by kernel_rfl
theorem telem30 : telem Try.prog 30 = some 36 := by kernel_rfl
theorem tarr30 : tarr Try.prog 30 = none := by kernel_rfl
theorem tbool30 : tbool Try.prog 30 = false := by kernel_rfl
theorem tbytes30 : tbytes Try.prog 30 = 24 := by kernel_rfl
theorem tint30 : tint Try.prog 30 = none := by kernel_rfl
theorem zeros30 : zeros Try.prog 30 = some [Ce.z] := by kernel_rfl
theorem tzl30 : (tzero Try.prog 30).map List.length = some 1 := by kernel_rfl
theorem und30 : (Try.prog.underlying 30).isSome = true := by kernel_rfl
theorem tok36 : tok Try.prog 36 = true := by kernel_rfl
theorem tsz36 : tsz Try.prog 36 = 1 := by kernel_rfl
theorem tagg36 : tagg Try.prog 36 = false := by kernel_rfl
theorem telem36 : telem Try.prog 36 = some 56 := by kernel_rfl
theorem tarr36 : tarr Try.prog 36 = none := by kernel_rfl
theorem tbool36 : tbool Try.prog 36 = false := by kernel_rfl
theorem tbytes36 : tbytes Try.prog 36 = 24 := by kernel_rfl
theorem tint36 : tint Try.prog 36 = none := by kernel_rfl
theorem zeros36 : zeros Try.prog 36 = some [Ce.z] := by kernel_rfl
theorem tzl36 : (tzero Try.prog 36).map List.length = some 1 := by kernel_rfl
theorem und36 : (Try.prog.underlying 36).isSome = true := by kernel_rfl
theorem tok39 : tok Try.prog 39 = true := by kernel_rfl
theorem tsz39 : tsz Try.prog 39 = 2 := by kernel_rfl
theorem tagg39 : tagg Try.prog 39 = true := by kernel_rfl
theorem telem39 : telem Try.prog 39 = none := by kernel_rfl
theorem tarr39 : tarr Try.prog 39 = none := by kernel_rfl
theorem tbool39 : tbool Try.prog 39 = false := by kernel_rfl
theorem tbytes39 : tbytes Try.prog 39 = 32 := by kernel_rfl
theorem tint39 : tint Try.prog 39 = none := by kernel_rfl
theorem zeros39 : zeros Try.prog 39 = some [Ce.dt (Dt.lit (Value.bool false)), Ce.z] := by kernel_rfl
theorem tzl39 : (tzero Try.prog 39).map List.length = some 2 := by kernel_rfl
theorem und39 : (Try.prog.underlying 39).isSome = true := by kernel_rfl
theorem tpls39 : (tplaces Try.prog 39).isSome = true := by kernel_rfl
theorem foff0_39 : foff Try.prog 39 0 = some 0 := by kernel_rfl
theorem tpl0_39 : tplace Try.prog 39 0 = some (0, 1) := by kernel_rfl
theorem foff1_39 : foff Try.prog 39 1 = some 1 := by kernel_rfl
theorem tpl1_39 : tplace Try.prog 39 1 = some (1, 1) := by kernel_rfl
theorem tok41 : tok Try.prog 41 = true := by kernel_rfl
theorem tsz41 : tsz Try.prog 41 = 3 := by kernel_rfl
theorem tagg41 : tagg Try.prog 41 = true := by kernel_rfl
theorem telem41 : telem Try.prog 41 = none := by kernel_rfl
theorem tarr41 : tarr Try.prog 41 = none := by kernel_rfl
theorem tbool41 : tbool Try.prog 41 = false := by kernel_rfl
theorem tbytes41 : tbytes Try.prog 41 = 56 := by kernel_rfl
theorem tint41 : tint Try.prog 41 = none := by kernel_rfl
theorem zeros41 : zeros Try.prog 41 = some [Ce.dt (Dt.lit (Value.bool false)), Ce.z, Ce.z] := by kernel_rfl
theorem tzl41 : (tzero Try.prog 41).map List.length = some 3 := by kernel_rfl
theorem und41 : (Try.prog.underlying 41).isSome = true := by kernel_rfl
theorem tpls41 : (tplaces Try.prog 41).isSome = true := by kernel_rfl
theorem foff0_41 : foff Try.prog 41 0 = some 0 := by kernel_rfl
theorem tpl0_41 : tplace Try.prog 41 0 = some (0, 2) := by kernel_rfl
theorem foff1_41 : foff Try.prog 41 1 = some 2 := by kernel_rfl
theorem tpl1_41 : tplace Try.prog 41 1 = some (2, 1) := by kernel_rfl
theorem tok55 : tok Try.prog 55 = true := by kernel_rfl
theorem tsz55 : tsz Try.prog 55 = 1 := by kernel_rfl
theorem tagg55 : tagg Try.prog 55 = false := by kernel_rfl
theorem telem55 : telem Try.prog 55 = none := by kernel_rfl
theorem tarr55 : tarr Try.prog 55 = none := by kernel_rfl
theorem tbool55 : tbool Try.prog 55 = false := by kernel_rfl
theorem tbytes55 : tbytes Try.prog 55 = 8 := by kernel_rfl
theorem tint55 : tint Try.prog 55 = some IntKind.u64 := by kernel_rfl
theorem zeros55 : zeros Try.prog 55 = some [Ce.dt (Dt.lit (Value.int IntKind.u64 (0)))] := by kernel_rfl
theorem tzl55 : (tzero Try.prog 55).map List.length = some 1 := by kernel_rfl
theorem und55 : (Try.prog.underlying 55).isSome = true := by kernel_rfl
theorem tok56 : tok Try.prog 56 = true := by kernel_rfl
theorem tsz56 : tsz Try.prog 56 = 1 := by kernel_rfl
theorem tagg56 : tagg Try.prog 56 = false := by kernel_rfl
theorem telem56 : telem Try.prog 56 = none := by kernel_rfl
theorem tarr56 : tarr Try.prog 56 = none := by kernel_rfl
theorem tbool56 : tbool Try.prog 56 = false := by kernel_rfl
theorem tbytes56 : tbytes Try.prog 56 = 4 := by kernel_rfl
theorem tint56 : tint Try.prog 56 = some IntKind.u32 := by kernel_rfl
theorem zeros56 : zeros Try.prog 56 = some [Ce.dt (Dt.lit (Value.int IntKind.u32 (0)))] := by kernel_rfl
theorem tzl56 : (tzero Try.prog 56).map List.length = some 1 := by kernel_rfl
theorem und56 : (Try.prog.underlying 56).isSome = true := by kernel_rfl
theorem tok63 : tok Try.prog 63 = true := by kernel_rfl
theorem tsz63 : tsz Try.prog 63 = 1 := by kernel_rfl
theorem tagg63 : tagg Try.prog 63 = false := by kernel_rfl
theorem telem63 : telem Try.prog 63 = some 39 := by kernel_rfl
theorem tarr63 : tarr Try.prog 63 = none := by kernel_rfl
theorem tbool63 : tbool Try.prog 63 = false := by kernel_rfl
theorem tbytes63 : tbytes Try.prog 63 = 24 := by kernel_rfl
theorem tint63 : tint Try.prog 63 = none := by kernel_rfl
theorem zeros63 : zeros Try.prog 63 = some [Ce.z] := by kernel_rfl
theorem tzl63 : (tzero Try.prog 63).map List.length = some 1 := by kernel_rfl
theorem und63 : (Try.prog.underlying 63).isSome = true := by kernel_rfl
theorem tok68 : tok Try.prog 68 = true := by kernel_rfl
theorem tsz68 : tsz Try.prog 68 = 1 := by kernel_rfl
theorem tagg68 : tagg Try.prog 68 = false := by kernel_rfl
theorem telem68 : telem Try.prog 68 = none := by kernel_rfl
theorem tarr68 : tarr Try.prog 68 = none := by kernel_rfl
theorem tbool68 : tbool Try.prog 68 = false := by kernel_rfl
theorem tbytes68 : tbytes Try.prog 68 = 8 := by kernel_rfl
theorem tint68 : tint Try.prog 68 = some IntKind.u64 := by kernel_rfl
theorem zeros68 : zeros Try.prog 68 = some [Ce.dt (Dt.lit (Value.int IntKind.u64 (0)))] := by kernel_rfl
theorem tzl68 : (tzero Try.prog 68).map List.length = some 1 := by kernel_rfl
theorem und68 : (Try.prog.underlying 68).isSome = true := by kernel_rfl
def TY := And.intro @tok2 (And.intro @tsz2 (And.intro @tagg2 (And.intro @telem2 (And.intro @tarr2 (And.intro @tbool2 (And.intro @tbytes2 (And.intro @tint2 (And.intro @zeros2 (And.intro @tzl2 (And.intro @und2 (And.intro @tok3 (And.intro @tsz3 (And.intro @tagg3 (And.intro @telem3 (And.intro @tarr3 (And.intro @tbool3 (And.intro @tbytes3 (And.intro @tint3 (And.intro @zeros3 (And.intro @tzl3 (And.intro @und3 (And.intro @tok4 (And.intro @tsz4 (And.intro @tagg4 (And.intro @telem4 (And.intro @tarr4 (And.intro @tbool4 (And.intro @tbytes4 (And.intro @tint4 (And.intro @zeros4 (And.intro @tzl4 (And.intro @und4 (And.intro @tok5 (And.intro @tsz5 (And.intro @tagg5 (And.intro @telem5 (And.intro @tarr5 (And.intro @tbool5 (And.intro @tbytes5 (And.intro @tint5 (And.intro @zeros5 (And.intro @tzl5 (And.intro @und5 (And.intro @tok22 (And.intro @tsz22 (And.intro @tagg22 (And.intro @telem22 (And.intro @tarr22 (And.intro @tbool22 (And.intro @tbytes22 (And.intro @tint22 (And.intro @zeros22 (And.intro @tzl22 (And.intro @und22 (And.intro @tok24 (And.intro @tsz24 (And.intro @tagg24 (And.intro @telem24 (And.intro @tarr24 (And.intro @tbool24 (And.intro @tbytes24 (And.intro @tint24 (And.intro @zeros24 (And.intro @tzl24 (And.intro @und24 (And.intro @tpls24 (And.intro @foff0_24 (And.intro @tpl0_24 (And.intro @foff1_24 (And.intro @tpl1_24 (And.intro @tok25 (And.intro @tsz25 (And.intro @tagg25 (And.intro @telem25 (And.intro @tarr25 (And.intro @tbool25 (And.intro @tbytes25 (And.intro @tint25 (And.intro @zeros25 (And.intro @tzl25 (And.intro @und25 (And.intro @tok30 (And.intro @tsz30 (And.intro @tagg30 (And.intro @telem30 (And.intro @tarr30 (And.intro @tbool30 (And.intro @tbytes30 (And.intro @tint30 (And.intro @zeros30 (And.intro @tzl30 (And.intro @und30 (And.intro @tok36 (And.intro @tsz36 (And.intro @tagg36 (And.intro @telem36 (And.intro @tarr36 (And.intro @tbool36 (And.intro @tbytes36 (And.intro @tint36 (And.intro @zeros36 (And.intro @tzl36 (And.intro @und36 (And.intro @tok39 (And.intro @tsz39 (And.intro @tagg39 (And.intro @telem39 (And.intro @tarr39 (And.intro @tbool39 (And.intro @tbytes39 (And.intro @tint39 (And.intro @zeros39 (And.intro @tzl39 (And.intro @und39 (And.intro @tpls39 (And.intro @foff0_39 (And.intro @tpl0_39 (And.intro @foff1_39 (And.intro @tpl1_39 (And.intro @tok41 (And.intro @tsz41 (And.intro @tagg41 (And.intro @telem41 (And.intro @tarr41 (And.intro @tbool41 (And.intro @tbytes41 (And.intro @tint41 (And.intro @zeros41 (And.intro @tzl41 (And.intro @und41 (And.intro @tpls41 (And.intro @foff0_41 (And.intro @tpl0_41 (And.intro @foff1_41 (And.intro @tpl1_41 (And.intro @tok55 (And.intro @tsz55 (And.intro @tagg55 (And.intro @telem55 (And.intro @tarr55 (And.intro @tbool55 (And.intro @tbytes55 (And.intro @tint55 (And.intro @zeros55 (And.intro @tzl55 (And.intro @und55 (And.intro @tok56 (And.intro @tsz56 (And.intro @tagg56 (And.intro @telem56 (And.intro @tarr56 (And.intro @tbool56 (And.intro @tbytes56 (And.intro @tint56 (And.intro @zeros56 (And.intro @tzl56 (And.intro @und56 (And.intro @tok63 (And.intro @tsz63 (And.intro @tagg63 (And.intro @telem63 (And.intro @tarr63 (And.intro @tbool63 (And.intro @tbytes63 (And.intro @tint63 (And.intro @zeros63 (And.intro @tzl63 (And.intro @und63 (And.intro @tok68 (And.intro @tsz68 (And.intro @tagg68 (And.intro @telem68 (And.intro @tarr68 (And.intro @tbool68 (And.intro @tbytes68 (And.intro @tint68 (And.intro @zeros68 (And.intro @tzl68 @und68))))))))))))))))))))))))))))))))))))))))))))))))))))))))))))))))))))))))))))))))))))))))))))))))))))))))))))))))))))))))))))))))))))))))))))))))))))))))))))))))))))))))))))))))))
end Go.Proofs.Ythhaoojgfbofnaa.E
