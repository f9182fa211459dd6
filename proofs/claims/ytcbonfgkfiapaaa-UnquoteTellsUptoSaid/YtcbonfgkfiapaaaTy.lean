/- Facts on the types and functions of this program, each by a run of the kernel. -/
import Derived.Test.YtcbonfgkfiapaaaProg
import Derived.Test.YtcbonfgkfiapaaaCore3
set_option linter.unusedVariables false
namespace Go.Proofs.Ytcbonfgkfiapaaa.Pv
open Go Go.RowKit
theorem aggSize1 : aggSize Try.prog 1 = some none := by kernel_rfl
theorem zeroCells1 : zeroCells Try.prog 1 = some [.nilfn] := by kernel_rfl
theorem concrete1 : Try.prog.concrete 1 = true := by kernel_rfl
theorem size1 : (Try.prog.info? 1).map (·.size) = some 1 := by kernel_rfl
theorem und2 : Try.prog.underlying 2 = some (.int .i64) := by kernel_rfl
theorem aggSize2 : aggSize Try.prog 2 = some none := by kernel_rfl
theorem zeroCells2 : zeroCells Try.prog 2 = some [.int .i64 0] := by kernel_rfl
theorem concrete2 : Try.prog.concrete 2 = true := by kernel_rfl
theorem size2 : (Try.prog.info? 2).map (·.size) = some 1 := by kernel_rfl
theorem und3 : Try.prog.underlying 3 = some (.int .i64) := by kernel_rfl
theorem aggSize3 : aggSize Try.prog 3 = some none := by kernel_rfl
theorem zeroCells3 : zeroCells Try.prog 3 = some [.int .i64 0] := by kernel_rfl
theorem concrete3 : Try.prog.concrete 3 = true := by kernel_rfl
theorem size3 : (Try.prog.info? 3).map (·.size) = some 1 := by kernel_rfl
theorem isBool4 : isBool Try.prog 4 = true := by kernel_rfl
theorem aggSize4 : aggSize Try.prog 4 = some none := by kernel_rfl
theorem zeroCells4 : zeroCells Try.prog 4 = some [.bool false] := by kernel_rfl
theorem concrete4 : Try.prog.concrete 4 = true := by kernel_rfl
theorem size4 : (Try.prog.info? 4).map (·.size) = some 1 := by kernel_rfl
theorem und5 : Try.prog.underlying 5 = some (.int .u8) := by kernel_rfl
theorem aggSize5 : aggSize Try.prog 5 = some none := by kernel_rfl
theorem zeroCells5 : zeroCells Try.prog 5 = some [.int .u8 0] := by kernel_rfl
theorem concrete5 : Try.prog.concrete 5 = true := by kernel_rfl
theorem size5 : (Try.prog.info? 5).map (·.size) = some 1 := by kernel_rfl
theorem und6 : Try.prog.underlying 6 = some (.int .u8) := by kernel_rfl
theorem aggSize6 : aggSize Try.prog 6 = some none := by kernel_rfl
theorem zeroCells6 : zeroCells Try.prog 6 = some [.int .u8 0] := by kernel_rfl
theorem concrete6 : Try.prog.concrete 6 = true := by kernel_rfl
theorem size6 : (Try.prog.info? 6).map (·.size) = some 1 := by kernel_rfl
theorem structOk7 : structOk Try.prog 7 = true := by kernel_rfl
theorem aggSize7 : aggSize Try.prog 7 = some (some 4) := by kernel_rfl
theorem fieldOff7_0 : fieldOff Try.prog 7 0 = some (0, 1, none) := by kernel_rfl
theorem fieldOff7_1 : fieldOff Try.prog 7 1 = some (1, 1, none) := by kernel_rfl
theorem fieldOff7_2 : fieldOff Try.prog 7 2 = some (2, 1, none) := by kernel_rfl
theorem fieldOff7_3 : fieldOff Try.prog 7 3 = some (3, 1, none) := by kernel_rfl
theorem zeroCells7 : zeroCells Try.prog 7 = some [.int .i64 0, .int .i64 0, .bool false, .int .u8 0] := by kernel_rfl
theorem concrete7 : Try.prog.concrete 7 = true := by kernel_rfl
theorem size7 : (Try.prog.info? 7).map (·.size) = some 4 := by kernel_rfl
theorem structOk8 : structOk Try.prog 8 = true := by kernel_rfl
theorem aggSize8 : aggSize Try.prog 8 = some (some 4) := by kernel_rfl
theorem fieldOff8_0 : fieldOff Try.prog 8 0 = some (0, 1, none) := by kernel_rfl
theorem fieldOff8_1 : fieldOff Try.prog 8 1 = some (1, 1, none) := by kernel_rfl
theorem fieldOff8_2 : fieldOff Try.prog 8 2 = some (2, 1, none) := by kernel_rfl
theorem fieldOff8_3 : fieldOff Try.prog 8 3 = some (3, 1, none) := by kernel_rfl
theorem zeroCells8 : zeroCells Try.prog 8 = some [.int .i64 0, .int .i64 0, .bool false, .int .u8 0] := by kernel_rfl
theorem concrete8 : Try.prog.concrete 8 = true := by kernel_rfl
theorem size8 : (Try.prog.info? 8).map (·.size) = some 4 := by kernel_rfl
theorem isStr9 : isStr Try.prog 9 = true := by kernel_rfl
theorem und9 : Try.prog.underlying 9 = some .string := by kernel_rfl
theorem aggSize9 : aggSize Try.prog 9 = some none := by kernel_rfl
theorem zeroCells9 : zeroCells Try.prog 9 = some [.str []] := by kernel_rfl
theorem concrete9 : Try.prog.concrete 9 = true := by kernel_rfl
theorem size9 : (Try.prog.info? 9).map (·.size) = some 1 := by kernel_rfl
theorem isStr10 : isStr Try.prog 10 = true := by kernel_rfl
theorem und10 : Try.prog.underlying 10 = some .string := by kernel_rfl
theorem aggSize10 : aggSize Try.prog 10 = some none := by kernel_rfl
theorem zeroCells10 : zeroCells Try.prog 10 = some [.str []] := by kernel_rfl
theorem concrete10 : Try.prog.concrete 10 = true := by kernel_rfl
theorem size10 : (Try.prog.info? 10).map (·.size) = some 1 := by kernel_rfl
theorem isStr11 : isStr Try.prog 11 = true := by kernel_rfl
theorem und11 : Try.prog.underlying 11 = some .string := by kernel_rfl
theorem aggSize11 : aggSize Try.prog 11 = some none := by kernel_rfl
theorem zeroCells11 : zeroCells Try.prog 11 = some [.str []] := by kernel_rfl
theorem concrete11 : Try.prog.concrete 11 = true := by kernel_rfl
theorem size11 : (Try.prog.info? 11).map (·.size) = some 1 := by kernel_rfl
theorem und12 : Try.prog.underlying 12 = some (.int .u64) := by kernel_rfl
theorem aggSize12 : aggSize Try.prog 12 = some none := by kernel_rfl
theorem zeroCells12 : zeroCells Try.prog 12 = some [.int .u64 0] := by kernel_rfl
theorem concrete12 : Try.prog.concrete 12 = true := by kernel_rfl
theorem size12 : (Try.prog.info? 12).map (·.size) = some 1 := by kernel_rfl
theorem structOk13 : structOk Try.prog 13 = true := by kernel_rfl
theorem aggSize13 : aggSize Try.prog 13 = some (some 2) := by kernel_rfl
theorem fieldOff13_0 : fieldOff Try.prog 13 0 = some (0, 1, none) := by kernel_rfl
theorem fieldOff13_1 : fieldOff Try.prog 13 1 = some (1, 1, none) := by kernel_rfl
theorem zeroCells13 : zeroCells Try.prog 13 = some [.str [], .int .u64 0] := by kernel_rfl
theorem concrete13 : Try.prog.concrete 13 = true := by kernel_rfl
theorem size13 : (Try.prog.info? 13).map (·.size) = some 2 := by kernel_rfl
theorem structOk14 : structOk Try.prog 14 = true := by kernel_rfl
theorem aggSize14 : aggSize Try.prog 14 = some (some 2) := by kernel_rfl
theorem fieldOff14_0 : fieldOff Try.prog 14 0 = some (0, 1, none) := by kernel_rfl
theorem fieldOff14_1 : fieldOff Try.prog 14 1 = some (1, 1, none) := by kernel_rfl
theorem zeroCells14 : zeroCells Try.prog 14 = some [.str [], .int .u64 0] := by kernel_rfl
theorem concrete14 : Try.prog.concrete 14 = true := by kernel_rfl
theorem size14 : (Try.prog.info? 14).map (·.size) = some 2 := by kernel_rfl
theorem isPtr15 : isPtr Try.prog 15 = true := by kernel_rfl
theorem aggSize15 : aggSize Try.prog 15 = some none := by kernel_rfl
theorem zeroCells15 : zeroCells Try.prog 15 = some [.nilp] := by kernel_rfl
theorem concrete15 : Try.prog.concrete 15 = true := by kernel_rfl
theorem size15 : (Try.prog.info? 15).map (·.size) = some 1 := by kernel_rfl
theorem isPtr16 : isPtr Try.prog 16 = true := by kernel_rfl
theorem aggSize16 : aggSize Try.prog 16 = some none := by kernel_rfl
theorem zeroCells16 : zeroCells Try.prog 16 = some [.nilp] := by kernel_rfl
theorem concrete16 : Try.prog.concrete 16 = true := by kernel_rfl
theorem size16 : (Try.prog.info? 16).map (·.size) = some 1 := by kernel_rfl
theorem isPtr17 : isPtr Try.prog 17 = true := by kernel_rfl
theorem aggSize17 : aggSize Try.prog 17 = some none := by kernel_rfl
theorem zeroCells17 : zeroCells Try.prog 17 = some [.nilp] := by kernel_rfl
theorem concrete17 : Try.prog.concrete 17 = true := by kernel_rfl
theorem size17 : (Try.prog.info? 17).map (·.size) = some 1 := by kernel_rfl
theorem structOk18 : structOk Try.prog 18 = true := by kernel_rfl
theorem aggSize18 : aggSize Try.prog 18 = some (some 1) := by kernel_rfl
theorem fieldOff18_0 : fieldOff Try.prog 18 0 = some (0, 1, none) := by kernel_rfl
theorem zeroCells18 : zeroCells Try.prog 18 = some [.nilp] := by kernel_rfl
theorem concrete18 : Try.prog.concrete 18 = true := by kernel_rfl
theorem size18 : (Try.prog.info? 18).map (·.size) = some 1 := by kernel_rfl
theorem structOk19 : structOk Try.prog 19 = true := by kernel_rfl
theorem aggSize19 : aggSize Try.prog 19 = some (some 1) := by kernel_rfl
theorem fieldOff19_0 : fieldOff Try.prog 19 0 = some (0, 1, none) := by kernel_rfl
theorem zeroCells19 : zeroCells Try.prog 19 = some [.nilp] := by kernel_rfl
theorem concrete19 : Try.prog.concrete 19 = true := by kernel_rfl
theorem size19 : (Try.prog.info? 19).map (·.size) = some 1 := by kernel_rfl
theorem aggSize20 : aggSize Try.prog 20 = some none := by kernel_rfl
theorem zeroCells20 : zeroCells Try.prog 20 = some [.nilif] := by kernel_rfl
theorem size20 : (Try.prog.info? 20).map (·.size) = some 1 := by kernel_rfl
theorem und21 : Try.prog.underlying 21 = some (.int .i32) := by kernel_rfl
theorem aggSize21 : aggSize Try.prog 21 = some none := by kernel_rfl
theorem zeroCells21 : zeroCells Try.prog 21 = some [.int .i32 0] := by kernel_rfl
theorem concrete21 : Try.prog.concrete 21 = true := by kernel_rfl
theorem size21 : (Try.prog.info? 21).map (·.size) = some 1 := by kernel_rfl
theorem aggSize22 : aggSize Try.prog 22 = some none := by kernel_rfl
theorem zeroCells22 : zeroCells Try.prog 22 = some [.nilfn] := by kernel_rfl
theorem concrete22 : Try.prog.concrete 22 = true := by kernel_rfl
theorem size22 : (Try.prog.info? 22).map (·.size) = some 1 := by kernel_rfl
theorem aggSize23 : aggSize Try.prog 23 = some none := by kernel_rfl
theorem zeroCells23 : zeroCells Try.prog 23 = some [.nilfn] := by kernel_rfl
theorem concrete23 : Try.prog.concrete 23 = true := by kernel_rfl
theorem size23 : (Try.prog.info? 23).map (·.size) = some 1 := by kernel_rfl
theorem aggSize24 : aggSize Try.prog 24 = some none := by kernel_rfl
theorem zeroCells24 : zeroCells Try.prog 24 = some [.nilfn] := by kernel_rfl
theorem concrete24 : Try.prog.concrete 24 = true := by kernel_rfl
theorem size24 : (Try.prog.info? 24).map (·.size) = some 1 := by kernel_rfl
theorem aggSize25 : aggSize Try.prog 25 = some none := by kernel_rfl
theorem zeroCells25 : zeroCells Try.prog 25 = some [.nilfn] := by kernel_rfl
theorem concrete25 : Try.prog.concrete 25 = true := by kernel_rfl
theorem size25 : (Try.prog.info? 25).map (·.size) = some 1 := by kernel_rfl
theorem aggSize26 : aggSize Try.prog 26 = some none := by kernel_rfl
theorem zeroCells26 : zeroCells Try.prog 26 = some [.nilfn] := by kernel_rfl
theorem concrete26 : Try.prog.concrete 26 = true := by kernel_rfl
theorem size26 : (Try.prog.info? 26).map (·.size) = some 1 := by kernel_rfl
theorem aggSize27 : aggSize Try.prog 27 = some none := by kernel_rfl
theorem zeroCells27 : zeroCells Try.prog 27 = some [.nilfn] := by kernel_rfl
theorem concrete27 : Try.prog.concrete 27 = true := by kernel_rfl
theorem size27 : (Try.prog.info? 27).map (·.size) = some 1 := by kernel_rfl
theorem isSl28 : isSl Try.prog 28 = true := by kernel_rfl
theorem elemSize28 : elemSize Try.prog 28 = some 1 := by kernel_rfl
theorem elemZero28 : elemZero Try.prog 28 = true := by kernel_rfl
theorem und28 : (Try.prog.underlying 28).isSome = true := by kernel_rfl
theorem bytesToStr28 : bytesToStr Try.prog 28 9 = true := by kernel_rfl
theorem aggSize28 : aggSize Try.prog 28 = some none := by kernel_rfl
theorem zeroCells28 : zeroCells Try.prog 28 = some [.sl0] := by kernel_rfl
theorem concrete28 : Try.prog.concrete 28 = true := by kernel_rfl
theorem size28 : (Try.prog.info? 28).map (·.size) = some 1 := by kernel_rfl
theorem aggSize29 : aggSize Try.prog 29 = some none := by kernel_rfl
theorem zeroCells29 : zeroCells Try.prog 29 = some [.nilfn] := by kernel_rfl
theorem concrete29 : Try.prog.concrete 29 = true := by kernel_rfl
theorem size29 : (Try.prog.info? 29).map (·.size) = some 1 := by kernel_rfl
theorem aggSize30 : aggSize Try.prog 30 = some none := by kernel_rfl
theorem zeroCells30 : zeroCells Try.prog 30 = some [.nilfn] := by kernel_rfl
theorem concrete30 : Try.prog.concrete 30 = true := by kernel_rfl
theorem size30 : (Try.prog.info? 30).map (·.size) = some 1 := by kernel_rfl
theorem isSl31 : isSl Try.prog 31 = true := by kernel_rfl
theorem elemSize31 : elemSize Try.prog 31 = some 5 := by kernel_rfl
theorem elemZero31 : elemZero Try.prog 31 = true := by kernel_rfl
theorem und31 : (Try.prog.underlying 31).isSome = true := by kernel_rfl
theorem bytesToStr31 : bytesToStr Try.prog 31 9 = false := by kernel_rfl
theorem aggSize31 : aggSize Try.prog 31 = some none := by kernel_rfl
theorem zeroCells31 : zeroCells Try.prog 31 = some [.sl0] := by kernel_rfl
theorem concrete31 : Try.prog.concrete 31 = true := by kernel_rfl
theorem size31 : (Try.prog.info? 31).map (·.size) = some 1 := by kernel_rfl
theorem structOk32 : structOk Try.prog 32 = true := by kernel_rfl
theorem aggSize32 : aggSize Try.prog 32 = some (some 1) := by kernel_rfl
theorem fieldOff32_0 : fieldOff Try.prog 32 0 = some (0, 1, none) := by kernel_rfl
theorem zeroCells32 : zeroCells Try.prog 32 = some [.sl0] := by kernel_rfl
theorem concrete32 : Try.prog.concrete 32 = true := by kernel_rfl
theorem size32 : (Try.prog.info? 32).map (·.size) = some 1 := by kernel_rfl
theorem structOk33 : structOk Try.prog 33 = true := by kernel_rfl
theorem aggSize33 : aggSize Try.prog 33 = some (some 1) := by kernel_rfl
theorem fieldOff33_0 : fieldOff Try.prog 33 0 = some (0, 1, none) := by kernel_rfl
theorem zeroCells33 : zeroCells Try.prog 33 = some [.sl0] := by kernel_rfl
theorem concrete33 : Try.prog.concrete 33 = true := by kernel_rfl
theorem size33 : (Try.prog.info? 33).map (·.size) = some 1 := by kernel_rfl
theorem aggSize34 : aggSize Try.prog 34 = some none := by kernel_rfl
theorem zeroCells34 : zeroCells Try.prog 34 = some [.nilfn] := by kernel_rfl
theorem concrete34 : Try.prog.concrete 34 = true := by kernel_rfl
theorem size34 : (Try.prog.info? 34).map (·.size) = some 1 := by kernel_rfl
theorem aggSize35 : aggSize Try.prog 35 = some none := by kernel_rfl
theorem zeroCells35 : zeroCells Try.prog 35 = some [.nilfn] := by kernel_rfl
theorem concrete35 : Try.prog.concrete 35 = true := by kernel_rfl
theorem size35 : (Try.prog.info? 35).map (·.size) = some 1 := by kernel_rfl
theorem aggSize36 : aggSize Try.prog 36 = some none := by kernel_rfl
theorem zeroCells36 : zeroCells Try.prog 36 = some [.nilfn] := by kernel_rfl
theorem concrete36 : Try.prog.concrete 36 = true := by kernel_rfl
theorem size36 : (Try.prog.info? 36).map (·.size) = some 1 := by kernel_rfl
theorem aggSize37 : aggSize Try.prog 37 = some none := by kernel_rfl
theorem zeroCells37 : zeroCells Try.prog 37 = some [.nilfn] := by kernel_rfl
theorem concrete37 : Try.prog.concrete 37 = true := by kernel_rfl
theorem size37 : (Try.prog.info? 37).map (·.size) = some 1 := by kernel_rfl
theorem aggSize38 : aggSize Try.prog 38 = some none := by kernel_rfl
theorem zeroCells38 : zeroCells Try.prog 38 = some [.nilfn] := by kernel_rfl
theorem concrete38 : Try.prog.concrete 38 = true := by kernel_rfl
theorem size38 : (Try.prog.info? 38).map (·.size) = some 1 := by kernel_rfl
theorem isSl39 : isSl Try.prog 39 = true := by kernel_rfl
theorem elemSize39 : elemSize Try.prog 39 = some 10 := by kernel_rfl
theorem elemZero39 : elemZero Try.prog 39 = true := by kernel_rfl
theorem und39 : (Try.prog.underlying 39).isSome = true := by kernel_rfl
theorem bytesToStr39 : bytesToStr Try.prog 39 9 = false := by kernel_rfl
theorem aggSize39 : aggSize Try.prog 39 = some none := by kernel_rfl
theorem zeroCells39 : zeroCells Try.prog 39 = some [.sl0] := by kernel_rfl
theorem concrete39 : Try.prog.concrete 39 = true := by kernel_rfl
theorem size39 : (Try.prog.info? 39).map (·.size) = some 1 := by kernel_rfl
theorem structOk40 : structOk Try.prog 40 = true := by kernel_rfl
theorem aggSize40 : aggSize Try.prog 40 = some (some 5) := by kernel_rfl
theorem fieldOff40_0 : fieldOff Try.prog 40 0 = some (0, 1, none) := by kernel_rfl
theorem fieldOff40_1 : fieldOff Try.prog 40 1 = some (1, 1, none) := by kernel_rfl
theorem fieldOff40_2 : fieldOff Try.prog 40 2 = some (2, 1, none) := by kernel_rfl
theorem fieldOff40_3 : fieldOff Try.prog 40 3 = some (3, 1, none) := by kernel_rfl
theorem fieldOff40_4 : fieldOff Try.prog 40 4 = some (4, 1, none) := by kernel_rfl
theorem zeroCells40 : zeroCells Try.prog 40 = some [.int .i64 0, .str [], .str [], .sl0, .sl0] := by kernel_rfl
theorem concrete40 : Try.prog.concrete 40 = true := by kernel_rfl
theorem size40 : (Try.prog.info? 40).map (·.size) = some 5 := by kernel_rfl
theorem structOk41 : structOk Try.prog 41 = true := by kernel_rfl
theorem aggSize41 : aggSize Try.prog 41 = some (some 5) := by kernel_rfl
theorem fieldOff41_0 : fieldOff Try.prog 41 0 = some (0, 1, none) := by kernel_rfl
theorem fieldOff41_1 : fieldOff Try.prog 41 1 = some (1, 1, none) := by kernel_rfl
theorem fieldOff41_2 : fieldOff Try.prog 41 2 = some (2, 1, none) := by kernel_rfl
theorem fieldOff41_3 : fieldOff Try.prog 41 3 = some (3, 1, none) := by kernel_rfl
theorem fieldOff41_4 : fieldOff Try.prog 41 4 = some (4, 1, none) := by kernel_rfl
theorem zeroCells41 : zeroCells Try.prog 41 = some [.int .i64 0, .str [], .str [], .sl0, .sl0] := by kernel_rfl
theorem concrete41 : Try.prog.concrete 41 = true := by kernel_rfl
theorem size41 : (Try.prog.info? 41).map (·.size) = some 5 := by kernel_rfl
theorem aggSize43 : aggSize Try.prog 43 = some none := by kernel_rfl
theorem zeroCells43 : zeroCells Try.prog 43 = some [.nilfn] := by kernel_rfl
theorem concrete43 : Try.prog.concrete 43 = true := by kernel_rfl
theorem size43 : (Try.prog.info? 43).map (·.size) = some 1 := by kernel_rfl
theorem aggSize44 : aggSize Try.prog 44 = some none := by kernel_rfl
theorem zeroCells44 : zeroCells Try.prog 44 = some [.nilfn] := by kernel_rfl
theorem concrete44 : Try.prog.concrete 44 = true := by kernel_rfl
theorem size44 : (Try.prog.info? 44).map (·.size) = some 1 := by kernel_rfl
theorem aggSize45 : aggSize Try.prog 45 = some none := by kernel_rfl
theorem zeroCells45 : zeroCells Try.prog 45 = some [.nilfn] := by kernel_rfl
theorem concrete45 : Try.prog.concrete 45 = true := by kernel_rfl
theorem size45 : (Try.prog.info? 45).map (·.size) = some 1 := by kernel_rfl
theorem aggSize47 : aggSize Try.prog 47 = some none := by kernel_rfl
theorem zeroCells47 : zeroCells Try.prog 47 = some [.nilfn] := by kernel_rfl
theorem concrete47 : Try.prog.concrete 47 = true := by kernel_rfl
theorem size47 : (Try.prog.info? 47).map (·.size) = some 1 := by kernel_rfl
theorem aggSize48 : aggSize Try.prog 48 = some none := by kernel_rfl
theorem zeroCells48 : zeroCells Try.prog 48 = some [.nilfn] := by kernel_rfl
theorem concrete48 : Try.prog.concrete 48 = true := by kernel_rfl
theorem size48 : (Try.prog.info? 48).map (·.size) = some 1 := by kernel_rfl
theorem isSl49 : isSl Try.prog 49 = true := by kernel_rfl
theorem elemSize49 : elemSize Try.prog 49 = some 1 := by kernel_rfl
theorem elemZero49 : elemZero Try.prog 49 = true := by kernel_rfl
theorem und49 : (Try.prog.underlying 49).isSome = true := by kernel_rfl
theorem bytesToStr49 : bytesToStr Try.prog 49 9 = false := by kernel_rfl
theorem aggSize49 : aggSize Try.prog 49 = some none := by kernel_rfl
theorem zeroCells49 : zeroCells Try.prog 49 = some [.sl0] := by kernel_rfl
theorem concrete49 : Try.prog.concrete 49 = true := by kernel_rfl
theorem size49 : (Try.prog.info? 49).map (·.size) = some 1 := by kernel_rfl
theorem aggSize50 : aggSize Try.prog 50 = some none := by kernel_rfl
theorem zeroCells50 : zeroCells Try.prog 50 = some [.nilfn] := by kernel_rfl
theorem concrete50 : Try.prog.concrete 50 = true := by kernel_rfl
theorem size50 : (Try.prog.info? 50).map (·.size) = some 1 := by kernel_rfl
theorem structOk51 : structOk Try.prog 51 = true := by kernel_rfl
theorem aggSize51 : aggSize Try.prog 51 = some (some 2) := by kernel_rfl
theorem fieldOff51_0 : fieldOff Try.prog 51 0 = some (0, 1, none) := by kernel_rfl
theorem fieldOff51_1 : fieldOff Try.prog 51 1 = some (1, 1, none) := by kernel_rfl
theorem zeroCells51 : zeroCells Try.prog 51 = some [.str [], .bool false] := by kernel_rfl
theorem concrete51 : Try.prog.concrete 51 = true := by kernel_rfl
theorem size51 : (Try.prog.info? 51).map (·.size) = some 2 := by kernel_rfl
theorem structOk52 : structOk Try.prog 52 = true := by kernel_rfl
theorem aggSize52 : aggSize Try.prog 52 = some (some 2) := by kernel_rfl
theorem fieldOff52_0 : fieldOff Try.prog 52 0 = some (0, 1, none) := by kernel_rfl
theorem fieldOff52_1 : fieldOff Try.prog 52 1 = some (1, 1, none) := by kernel_rfl
theorem zeroCells52 : zeroCells Try.prog 52 = some [.str [], .bool false] := by kernel_rfl
theorem concrete52 : Try.prog.concrete 52 = true := by kernel_rfl
theorem size52 : (Try.prog.info? 52).map (·.size) = some 2 := by kernel_rfl
theorem aggSize53 : aggSize Try.prog 53 = some none := by kernel_rfl
theorem zeroCells53 : zeroCells Try.prog 53 = some [.nilfn] := by kernel_rfl
theorem concrete53 : Try.prog.concrete 53 = true := by kernel_rfl
theorem size53 : (Try.prog.info? 53).map (·.size) = some 1 := by kernel_rfl
theorem aggSize54 : aggSize Try.prog 54 = some none := by kernel_rfl
theorem zeroCells54 : zeroCells Try.prog 54 = some [.nilfn] := by kernel_rfl
theorem concrete54 : Try.prog.concrete 54 = true := by kernel_rfl
theorem size54 : (Try.prog.info? 54).map (·.size) = some 1 := by kernel_rfl
theorem aggSize55 : aggSize Try.prog 55 = some none := by kernel_rfl
theorem zeroCells55 : zeroCells Try.prog 55 = some [.nilfn] := by kernel_rfl
theorem concrete55 : Try.prog.concrete 55 = true := by kernel_rfl
theorem size55 : (Try.prog.info? 55).map (·.size) = some 1 := by kernel_rfl
theorem isPtr56 : isPtr Try.prog 56 = true := by kernel_rfl
theorem aggSize56 : aggSize Try.prog 56 = some none := by kernel_rfl
theorem zeroCells56 : zeroCells Try.prog 56 = some [.nilp] := by kernel_rfl
theorem concrete56 : Try.prog.concrete 56 = true := by kernel_rfl
theorem size56 : (Try.prog.info? 56).map (·.size) = some 1 := by kernel_rfl
theorem aggSize58 : aggSize Try.prog 58 = some none := by kernel_rfl
theorem zeroCells58 : zeroCells Try.prog 58 = some [.nilfn] := by kernel_rfl
theorem concrete58 : Try.prog.concrete 58 = true := by kernel_rfl
theorem size58 : (Try.prog.info? 58).map (·.size) = some 1 := by kernel_rfl
theorem aggSize59 : aggSize Try.prog 59 = some none := by kernel_rfl
theorem zeroCells59 : zeroCells Try.prog 59 = some [.nilfn] := by kernel_rfl
theorem concrete59 : Try.prog.concrete 59 = true := by kernel_rfl
theorem size59 : (Try.prog.info? 59).map (·.size) = some 1 := by kernel_rfl
theorem aggSize60 : aggSize Try.prog 60 = some none := by kernel_rfl
theorem zeroCells60 : zeroCells Try.prog 60 = some [.nilfn] := by kernel_rfl
theorem concrete60 : Try.prog.concrete 60 = true := by kernel_rfl
theorem size60 : (Try.prog.info? 60).map (·.size) = some 1 := by kernel_rfl
theorem isSl61 : isSl Try.prog 61 = true := by kernel_rfl
theorem elemSize61 : elemSize Try.prog 61 = some 1 := by kernel_rfl
theorem elemZero61 : elemZero Try.prog 61 = true := by kernel_rfl
theorem und61 : (Try.prog.underlying 61).isSome = true := by kernel_rfl
theorem bytesToStr61 : bytesToStr Try.prog 61 9 = false := by kernel_rfl
theorem aggSize61 : aggSize Try.prog 61 = some none := by kernel_rfl
theorem zeroCells61 : zeroCells Try.prog 61 = some [.sl0] := by kernel_rfl
theorem concrete61 : Try.prog.concrete 61 = true := by kernel_rfl
theorem size61 : (Try.prog.info? 61).map (·.size) = some 1 := by kernel_rfl
theorem aggSize62 : aggSize Try.prog 62 = some none := by kernel_rfl
theorem zeroCells62 : zeroCells Try.prog 62 = some [.nilfn] := by kernel_rfl
theorem concrete62 : Try.prog.concrete 62 = true := by kernel_rfl
theorem size62 : (Try.prog.info? 62).map (·.size) = some 1 := by kernel_rfl
theorem aggSize63 : aggSize Try.prog 63 = some none := by kernel_rfl
theorem zeroCells63 : zeroCells Try.prog 63 = some [.nilfn] := by kernel_rfl
theorem concrete63 : Try.prog.concrete 63 = true := by kernel_rfl
theorem size63 : (Try.prog.info? 63).map (·.size) = some 1 := by kernel_rfl
theorem aggSize64 : aggSize Try.prog 64 = some none := by kernel_rfl
theorem zeroCells64 : zeroCells Try.prog 64 = some [.nilfn] := by kernel_rfl
theorem concrete64 : Try.prog.concrete 64 = true := by kernel_rfl
theorem size64 : (Try.prog.info? 64).map (·.size) = some 1 := by kernel_rfl
theorem aggSize65 : aggSize Try.prog 65 = some none := by kernel_rfl
theorem zeroCells65 : zeroCells Try.prog 65 = some [.nilfn] := by kernel_rfl
theorem concrete65 : Try.prog.concrete 65 = true := by kernel_rfl
theorem size65 : (Try.prog.info? 65).map (·.size) = some 1 := by kernel_rfl
theorem isSl66 : isSl Try.prog 66 = true := by kernel_rfl
theorem elemSize66 : elemSize Try.prog 66 = some 3 := by kernel_rfl
theorem elemZero66 : elemZero Try.prog 66 = true := by kernel_rfl
theorem und66 : (Try.prog.underlying 66).isSome = true := by kernel_rfl
theorem bytesToStr66 : bytesToStr Try.prog 66 9 = false := by kernel_rfl
theorem aggSize66 : aggSize Try.prog 66 = some none := by kernel_rfl
theorem zeroCells66 : zeroCells Try.prog 66 = some [.sl0] := by kernel_rfl
theorem concrete66 : Try.prog.concrete 66 = true := by kernel_rfl
theorem size66 : (Try.prog.info? 66).map (·.size) = some 1 := by kernel_rfl
theorem isPtr67 : isPtr Try.prog 67 = true := by kernel_rfl
theorem aggSize67 : aggSize Try.prog 67 = some none := by kernel_rfl
theorem zeroCells67 : zeroCells Try.prog 67 = some [.nilp] := by kernel_rfl
theorem concrete67 : Try.prog.concrete 67 = true := by kernel_rfl
theorem size67 : (Try.prog.info? 67).map (·.size) = some 1 := by kernel_rfl
theorem aggSize68 : aggSize Try.prog 68 = some none := by kernel_rfl
theorem zeroCells68 : zeroCells Try.prog 68 = some [.nilfn] := by kernel_rfl
theorem concrete68 : Try.prog.concrete 68 = true := by kernel_rfl
theorem size68 : (Try.prog.info? 68).map (·.size) = some 1 := by kernel_rfl
theorem isPtr69 : isPtr Try.prog 69 = true := by kernel_rfl
theorem aggSize69 : aggSize Try.prog 69 = some none := by kernel_rfl
theorem zeroCells69 : zeroCells Try.prog 69 = some [.nilp] := by kernel_rfl
theorem concrete69 : Try.prog.concrete 69 = true := by kernel_rfl
theorem size69 : (Try.prog.info? 69).map (·.size) = some 1 := by kernel_rfl
theorem isSl70 : isSl Try.prog 70 = true := by kernel_rfl
theorem elemSize70 : elemSize Try.prog 70 = some 2 := by kernel_rfl
theorem elemZero70 : elemZero Try.prog 70 = true := by kernel_rfl
theorem und70 : (Try.prog.underlying 70).isSome = true := by kernel_rfl
theorem bytesToStr70 : bytesToStr Try.prog 70 9 = false := by kernel_rfl
theorem aggSize70 : aggSize Try.prog 70 = some none := by kernel_rfl
theorem zeroCells70 : zeroCells Try.prog 70 = some [.sl0] := by kernel_rfl
theorem concrete70 : Try.prog.concrete 70 = true := by kernel_rfl
theorem size70 : (Try.prog.info? 70).map (·.size) = some 1 := by kernel_rfl
theorem structOk71 : structOk Try.prog 71 = true := by kernel_rfl
theorem aggSize71 : aggSize Try.prog 71 = some (some 1) := by kernel_rfl
theorem fieldOff71_0 : fieldOff Try.prog 71 0 = some (0, 1, none) := by kernel_rfl
theorem zeroCells71 : zeroCells Try.prog 71 = some [.sl0] := by kernel_rfl
theorem concrete71 : Try.prog.concrete 71 = true := by kernel_rfl
theorem size71 : (Try.prog.info? 71).map (·.size) = some 1 := by kernel_rfl
theorem structOk72 : structOk Try.prog 72 = true := by kernel_rfl
theorem aggSize72 : aggSize Try.prog 72 = some (some 1) := by kernel_rfl
theorem fieldOff72_0 : fieldOff Try.prog 72 0 = some (0, 1, none) := by kernel_rfl
theorem zeroCells72 : zeroCells Try.prog 72 = some [.sl0] := by kernel_rfl
theorem concrete72 : Try.prog.concrete 72 = true := by kernel_rfl
theorem size72 : (Try.prog.info? 72).map (·.size) = some 1 := by kernel_rfl
theorem structOk73 : structOk Try.prog 73 = true := by kernel_rfl
theorem aggSize73 : aggSize Try.prog 73 = some (some 3) := by kernel_rfl
theorem fieldOff73_0 : fieldOff Try.prog 73 0 = some (0, 1, none) := by kernel_rfl
theorem fieldOff73_1 : fieldOff Try.prog 73 1 = some (1, 1, none) := by kernel_rfl
theorem fieldOff73_2 : fieldOff Try.prog 73 2 = some (2, 1, none) := by kernel_rfl
theorem zeroCells73 : zeroCells Try.prog 73 = some [.int .i64 0, .str [], .str []] := by kernel_rfl
theorem concrete73 : Try.prog.concrete 73 = true := by kernel_rfl
theorem size73 : (Try.prog.info? 73).map (·.size) = some 3 := by kernel_rfl
theorem structOk74 : structOk Try.prog 74 = true := by kernel_rfl
theorem aggSize74 : aggSize Try.prog 74 = some (some 3) := by kernel_rfl
theorem fieldOff74_0 : fieldOff Try.prog 74 0 = some (0, 1, none) := by kernel_rfl
theorem fieldOff74_1 : fieldOff Try.prog 74 1 = some (1, 1, none) := by kernel_rfl
theorem fieldOff74_2 : fieldOff Try.prog 74 2 = some (2, 1, none) := by kernel_rfl
theorem zeroCells74 : zeroCells Try.prog 74 = some [.int .i64 0, .str [], .str []] := by kernel_rfl
theorem concrete74 : Try.prog.concrete 74 = true := by kernel_rfl
theorem size74 : (Try.prog.info? 74).map (·.size) = some 3 := by kernel_rfl
theorem und75 : Try.prog.underlying 75 = some (.int .i64) := by kernel_rfl
theorem aggSize75 : aggSize Try.prog 75 = some none := by kernel_rfl
theorem zeroCells75 : zeroCells Try.prog 75 = some [.int .i64 0] := by kernel_rfl
theorem concrete75 : Try.prog.concrete 75 = true := by kernel_rfl
theorem size75 : (Try.prog.info? 75).map (·.size) = some 1 := by kernel_rfl
theorem aggSize76 : aggSize Try.prog 76 = some none := by kernel_rfl
theorem zeroCells76 : zeroCells Try.prog 76 = some [.nilfn] := by kernel_rfl
theorem concrete76 : Try.prog.concrete 76 = true := by kernel_rfl
theorem size76 : (Try.prog.info? 76).map (·.size) = some 1 := by kernel_rfl
theorem aggSize77 : aggSize Try.prog 77 = some none := by kernel_rfl
theorem zeroCells77 : zeroCells Try.prog 77 = some [.nilfn] := by kernel_rfl
theorem concrete77 : Try.prog.concrete 77 = true := by kernel_rfl
theorem size77 : (Try.prog.info? 77).map (·.size) = some 1 := by kernel_rfl
theorem aggSize78 : aggSize Try.prog 78 = some none := by kernel_rfl
theorem zeroCells78 : zeroCells Try.prog 78 = some [.nilfn] := by kernel_rfl
theorem concrete78 : Try.prog.concrete 78 = true := by kernel_rfl
theorem size78 : (Try.prog.info? 78).map (·.size) = some 1 := by kernel_rfl
theorem aggSize79 : aggSize Try.prog 79 = some none := by kernel_rfl
theorem zeroCells79 : zeroCells Try.prog 79 = some [.nilfn] := by kernel_rfl
theorem concrete79 : Try.prog.concrete 79 = true := by kernel_rfl
theorem size79 : (Try.prog.info? 79).map (·.size) = some 1 := by kernel_rfl
theorem aggSize80 : aggSize Try.prog 80 = some none := by kernel_rfl
theorem zeroCells80 : zeroCells Try.prog 80 = some [.nilfn] := by kernel_rfl
theorem concrete80 : Try.prog.concrete 80 = true := by kernel_rfl
theorem size80 : (Try.prog.info? 80).map (·.size) = some 1 := by kernel_rfl
theorem aggSize81 : aggSize Try.prog 81 = some none := by kernel_rfl
theorem zeroCells81 : zeroCells Try.prog 81 = some [.nilfn] := by kernel_rfl
theorem concrete81 : Try.prog.concrete 81 = true := by kernel_rfl
theorem size81 : (Try.prog.info? 81).map (·.size) = some 1 := by kernel_rfl
theorem aggSize82 : aggSize Try.prog 82 = some none := by kernel_rfl
theorem zeroCells82 : zeroCells Try.prog 82 = some [.nilfn] := by kernel_rfl
theorem concrete82 : Try.prog.concrete 82 = true := by kernel_rfl
theorem size82 : (Try.prog.info? 82).map (·.size) = some 1 := by kernel_rfl
theorem aggSize83 : aggSize Try.prog 83 = some none := by kernel_rfl
theorem zeroCells83 : zeroCells Try.prog 83 = some [.nilfn] := by kernel_rfl
theorem concrete83 : Try.prog.concrete 83 = true := by kernel_rfl
theorem size83 : (Try.prog.info? 83).map (·.size) = some 1 := by kernel_rfl
theorem aggSize84 : aggSize Try.prog 84 = some none := by kernel_rfl
theorem zeroCells84 : zeroCells Try.prog 84 = some [.nilfn] := by kernel_rfl
theorem concrete84 : Try.prog.concrete 84 = true := by kernel_rfl
theorem size84 : (Try.prog.info? 84).map (·.size) = some 1 := by kernel_rfl
theorem aggSize85 : aggSize Try.prog 85 = some none := by kernel_rfl
theorem zeroCells85 : zeroCells Try.prog 85 = some [.nilfn] := by kernel_rfl
theorem concrete85 : Try.prog.concrete 85 = true := by kernel_rfl
theorem size85 : (Try.prog.info? 85).map (·.size) = some 1 := by kernel_rfl
theorem isPtr86 : isPtr Try.prog 86 = true := by kernel_rfl
theorem aggSize86 : aggSize Try.prog 86 = some none := by kernel_rfl
theorem zeroCells86 : zeroCells Try.prog 86 = some [.nilp] := by kernel_rfl
theorem concrete86 : Try.prog.concrete 86 = true := by kernel_rfl
theorem size86 : (Try.prog.info? 86).map (·.size) = some 1 := by kernel_rfl
theorem isPtr87 : isPtr Try.prog 87 = true := by kernel_rfl
theorem aggSize87 : aggSize Try.prog 87 = some none := by kernel_rfl
theorem zeroCells87 : zeroCells Try.prog 87 = some [.nilp] := by kernel_rfl
theorem concrete87 : Try.prog.concrete 87 = true := by kernel_rfl
theorem size87 : (Try.prog.info? 87).map (·.size) = some 1 := by kernel_rfl
theorem structOk88 : structOk Try.prog 88 = true := by kernel_rfl
theorem aggSize88 : aggSize Try.prog 88 = some (some 2) := by kernel_rfl
theorem fieldOff88_0 : fieldOff Try.prog 88 0 = some (0, 1, none) := by kernel_rfl
theorem fieldOff88_1 : fieldOff Try.prog 88 1 = some (1, 1, none) := by kernel_rfl
theorem zeroCells88 : zeroCells Try.prog 88 = some [.nilp, .sl0] := by kernel_rfl
theorem concrete88 : Try.prog.concrete 88 = true := by kernel_rfl
theorem size88 : (Try.prog.info? 88).map (·.size) = some 2 := by kernel_rfl
theorem structOk89 : structOk Try.prog 89 = true := by kernel_rfl
theorem aggSize89 : aggSize Try.prog 89 = some (some 2) := by kernel_rfl
theorem fieldOff89_0 : fieldOff Try.prog 89 0 = some (0, 1, none) := by kernel_rfl
theorem fieldOff89_1 : fieldOff Try.prog 89 1 = some (1, 1, none) := by kernel_rfl
theorem zeroCells89 : zeroCells Try.prog 89 = some [.nilp, .sl0] := by kernel_rfl
theorem concrete89 : Try.prog.concrete 89 = true := by kernel_rfl
theorem size89 : (Try.prog.info? 89).map (·.size) = some 2 := by kernel_rfl
theorem structOk90 : structOk Try.prog 90 = true := by kernel_rfl
theorem aggSize90 : aggSize Try.prog 90 = some (some 2) := by kernel_rfl
theorem fieldOff90_0 : fieldOff Try.prog 90 0 = some (0, 2, some 2) := by kernel_rfl
theorem zeroCells90 : zeroCells Try.prog 90 = some [.nilp, .sl0] := by kernel_rfl
theorem concrete90 : Try.prog.concrete 90 = true := by kernel_rfl
theorem size90 : (Try.prog.info? 90).map (·.size) = some 2 := by kernel_rfl
theorem structOk91 : structOk Try.prog 91 = true := by kernel_rfl
theorem aggSize91 : aggSize Try.prog 91 = some (some 2) := by kernel_rfl
theorem fieldOff91_0 : fieldOff Try.prog 91 0 = some (0, 2, some 2) := by kernel_rfl
theorem zeroCells91 : zeroCells Try.prog 91 = some [.nilp, .sl0] := by kernel_rfl
theorem concrete91 : Try.prog.concrete 91 = true := by kernel_rfl
theorem size91 : (Try.prog.info? 91).map (·.size) = some 2 := by kernel_rfl
theorem isPtr92 : isPtr Try.prog 92 = true := by kernel_rfl
theorem aggSize92 : aggSize Try.prog 92 = some none := by kernel_rfl
theorem zeroCells92 : zeroCells Try.prog 92 = some [.nilp] := by kernel_rfl
theorem concrete92 : Try.prog.concrete 92 = true := by kernel_rfl
theorem size92 : (Try.prog.info? 92).map (·.size) = some 1 := by kernel_rfl
theorem aggSize93 : aggSize Try.prog 93 = some none := by kernel_rfl
theorem zeroCells93 : zeroCells Try.prog 93 = some [.nilif] := by kernel_rfl
theorem size93 : (Try.prog.info? 93).map (·.size) = some 1 := by kernel_rfl
theorem aggSize94 : aggSize Try.prog 94 = some none := by kernel_rfl
theorem zeroCells94 : zeroCells Try.prog 94 = some [.nilif] := by kernel_rfl
theorem size94 : (Try.prog.info? 94).map (·.size) = some 1 := by kernel_rfl
theorem structOk95 : structOk Try.prog 95 = true := by kernel_rfl
theorem aggSize95 : aggSize Try.prog 95 = some (some 2) := by kernel_rfl
theorem fieldOff95_0 : fieldOff Try.prog 95 0 = some (0, 1, none) := by kernel_rfl
theorem fieldOff95_1 : fieldOff Try.prog 95 1 = some (1, 1, none) := by kernel_rfl
theorem zeroCells95 : zeroCells Try.prog 95 = some [.nilif, .sl0] := by kernel_rfl
theorem concrete95 : Try.prog.concrete 95 = true := by kernel_rfl
theorem size95 : (Try.prog.info? 95).map (·.size) = some 2 := by kernel_rfl
theorem structOk96 : structOk Try.prog 96 = true := by kernel_rfl
theorem aggSize96 : aggSize Try.prog 96 = some (some 2) := by kernel_rfl
theorem fieldOff96_0 : fieldOff Try.prog 96 0 = some (0, 1, none) := by kernel_rfl
theorem fieldOff96_1 : fieldOff Try.prog 96 1 = some (1, 1, none) := by kernel_rfl
theorem zeroCells96 : zeroCells Try.prog 96 = some [.nilif, .sl0] := by kernel_rfl
theorem concrete96 : Try.prog.concrete 96 = true := by kernel_rfl
theorem size96 : (Try.prog.info? 96).map (·.size) = some 2 := by kernel_rfl
theorem aggSize97 : aggSize Try.prog 97 = some none := by kernel_rfl
theorem zeroCells97 : zeroCells Try.prog 97 = some [.nilfn] := by kernel_rfl
theorem concrete97 : Try.prog.concrete 97 = true := by kernel_rfl
theorem size97 : (Try.prog.info? 97).map (·.size) = some 1 := by kernel_rfl
theorem isPtr98 : isPtr Try.prog 98 = true := by kernel_rfl
theorem aggSize98 : aggSize Try.prog 98 = some none := by kernel_rfl
theorem zeroCells98 : zeroCells Try.prog 98 = some [.nilp] := by kernel_rfl
theorem concrete98 : Try.prog.concrete 98 = true := by kernel_rfl
theorem size98 : (Try.prog.info? 98).map (·.size) = some 1 := by kernel_rfl
theorem structOk99 : structOk Try.prog 99 = true := by kernel_rfl
theorem aggSize99 : aggSize Try.prog 99 = some (some 1) := by kernel_rfl
theorem fieldOff99_0 : fieldOff Try.prog 99 0 = some (0, 1, none) := by kernel_rfl
theorem zeroCells99 : zeroCells Try.prog 99 = some [.int .i64 0] := by kernel_rfl
theorem concrete99 : Try.prog.concrete 99 = true := by kernel_rfl
theorem size99 : (Try.prog.info? 99).map (·.size) = some 1 := by kernel_rfl
theorem structOk100 : structOk Try.prog 100 = true := by kernel_rfl
theorem aggSize100 : aggSize Try.prog 100 = some (some 1) := by kernel_rfl
theorem fieldOff100_0 : fieldOff Try.prog 100 0 = some (0, 1, none) := by kernel_rfl
theorem zeroCells100 : zeroCells Try.prog 100 = some [.int .i64 0] := by kernel_rfl
theorem concrete100 : Try.prog.concrete 100 = true := by kernel_rfl
theorem size100 : (Try.prog.info? 100).map (·.size) = some 1 := by kernel_rfl
theorem aggSize101 : aggSize Try.prog 101 = some none := by kernel_rfl
theorem zeroCells101 : zeroCells Try.prog 101 = some [.nilfn] := by kernel_rfl
theorem concrete101 : Try.prog.concrete 101 = true := by kernel_rfl
theorem size101 : (Try.prog.info? 101).map (·.size) = some 1 := by kernel_rfl
theorem aggSize102 : aggSize Try.prog 102 = some none := by kernel_rfl
theorem zeroCells102 : zeroCells Try.prog 102 = some [.nilfn] := by kernel_rfl
theorem concrete102 : Try.prog.concrete 102 = true := by kernel_rfl
theorem size102 : (Try.prog.info? 102).map (·.size) = some 1 := by kernel_rfl
theorem aggSize103 : aggSize Try.prog 103 = some none := by kernel_rfl
theorem zeroCells103 : zeroCells Try.prog 103 = some [.nilfn] := by kernel_rfl
theorem concrete103 : Try.prog.concrete 103 = true := by kernel_rfl
theorem size103 : (Try.prog.info? 103).map (·.size) = some 1 := by kernel_rfl
theorem aggSize104 : aggSize Try.prog 104 = some none := by kernel_rfl
theorem zeroCells104 : zeroCells Try.prog 104 = some [.nilfn] := by kernel_rfl
theorem concrete104 : Try.prog.concrete 104 = true := by kernel_rfl
theorem size104 : (Try.prog.info? 104).map (·.size) = some 1 := by kernel_rfl
theorem aggSize105 : aggSize Try.prog 105 = some none := by kernel_rfl
theorem zeroCells105 : zeroCells Try.prog 105 = some [.nilfn] := by kernel_rfl
theorem concrete105 : Try.prog.concrete 105 = true := by kernel_rfl
theorem size105 : (Try.prog.info? 105).map (·.size) = some 1 := by kernel_rfl
theorem aggSize106 : aggSize Try.prog 106 = some none := by kernel_rfl
theorem zeroCells106 : zeroCells Try.prog 106 = some [.nilfn] := by kernel_rfl
theorem concrete106 : Try.prog.concrete 106 = true := by kernel_rfl
theorem size106 : (Try.prog.info? 106).map (·.size) = some 1 := by kernel_rfl
theorem aggSize107 : aggSize Try.prog 107 = some none := by kernel_rfl
theorem zeroCells107 : zeroCells Try.prog 107 = some [.nilfn] := by kernel_rfl
theorem concrete107 : Try.prog.concrete 107 = true := by kernel_rfl
theorem size107 : (Try.prog.info? 107).map (·.size) = some 1 := by kernel_rfl
theorem aggSize108 : aggSize Try.prog 108 = some none := by kernel_rfl
theorem zeroCells108 : zeroCells Try.prog 108 = some [.nilfn] := by kernel_rfl
theorem concrete108 : Try.prog.concrete 108 = true := by kernel_rfl
theorem size108 : (Try.prog.info? 108).map (·.size) = some 1 := by kernel_rfl
theorem aggSize109 : aggSize Try.prog 109 = some none := by kernel_rfl
theorem zeroCells109 : zeroCells Try.prog 109 = some [.nilfn] := by kernel_rfl
theorem concrete109 : Try.prog.concrete 109 = true := by kernel_rfl
theorem size109 : (Try.prog.info? 109).map (·.size) = some 1 := by kernel_rfl
theorem aggSize110 : aggSize Try.prog 110 = some none := by kernel_rfl
theorem zeroCells110 : zeroCells Try.prog 110 = some [.nilfn] := by kernel_rfl
theorem concrete110 : Try.prog.concrete 110 = true := by kernel_rfl
theorem size110 : (Try.prog.info? 110).map (·.size) = some 1 := by kernel_rfl
theorem aggSize112 : aggSize Try.prog 112 = some none := by kernel_rfl
theorem zeroCells112 : zeroCells Try.prog 112 = some [.nilfn] := by kernel_rfl
theorem concrete112 : Try.prog.concrete 112 = true := by kernel_rfl
theorem size112 : (Try.prog.info? 112).map (·.size) = some 1 := by kernel_rfl
theorem aggSize113 : aggSize Try.prog 113 = some none := by kernel_rfl
theorem zeroCells113 : zeroCells Try.prog 113 = some [.nilfn] := by kernel_rfl
theorem concrete113 : Try.prog.concrete 113 = true := by kernel_rfl
theorem size113 : (Try.prog.info? 113).map (·.size) = some 1 := by kernel_rfl
theorem aggSize115 : aggSize Try.prog 115 = some none := by kernel_rfl
theorem zeroCells115 : zeroCells Try.prog 115 = some [.nilfn] := by kernel_rfl
theorem concrete115 : Try.prog.concrete 115 = true := by kernel_rfl
theorem size115 : (Try.prog.info? 115).map (·.size) = some 1 := by kernel_rfl
theorem aggSize116 : aggSize Try.prog 116 = some none := by kernel_rfl
theorem zeroCells116 : zeroCells Try.prog 116 = some [.nilfn] := by kernel_rfl
theorem concrete116 : Try.prog.concrete 116 = true := by kernel_rfl
theorem size116 : (Try.prog.info? 116).map (·.size) = some 1 := by kernel_rfl
theorem structOk117 : structOk Try.prog 117 = true := by kernel_rfl
theorem aggSize117 : aggSize Try.prog 117 = some (some 6) := by kernel_rfl
theorem fieldOff117_0 : fieldOff Try.prog 117 0 = some (0, 2, some 2) := by kernel_rfl
theorem fieldOff117_1 : fieldOff Try.prog 117 1 = some (2, 1, none) := by kernel_rfl
theorem fieldOff117_2 : fieldOff Try.prog 117 2 = some (3, 1, none) := by kernel_rfl
theorem fieldOff117_3 : fieldOff Try.prog 117 3 = some (4, 1, none) := by kernel_rfl
theorem fieldOff117_4 : fieldOff Try.prog 117 4 = some (5, 1, none) := by kernel_rfl
theorem zeroCells117 : zeroCells Try.prog 117 = some [.str [], .bool false, .sl0, .sl0, .bool false, .int .i64 0] := by kernel_rfl
theorem concrete117 : Try.prog.concrete 117 = true := by kernel_rfl
theorem size117 : (Try.prog.info? 117).map (·.size) = some 6 := by kernel_rfl
theorem structOk118 : structOk Try.prog 118 = true := by kernel_rfl
theorem aggSize118 : aggSize Try.prog 118 = some (some 6) := by kernel_rfl
theorem fieldOff118_0 : fieldOff Try.prog 118 0 = some (0, 2, some 2) := by kernel_rfl
theorem fieldOff118_1 : fieldOff Try.prog 118 1 = some (2, 1, none) := by kernel_rfl
theorem fieldOff118_2 : fieldOff Try.prog 118 2 = some (3, 1, none) := by kernel_rfl
theorem fieldOff118_3 : fieldOff Try.prog 118 3 = some (4, 1, none) := by kernel_rfl
theorem fieldOff118_4 : fieldOff Try.prog 118 4 = some (5, 1, none) := by kernel_rfl
theorem zeroCells118 : zeroCells Try.prog 118 = some [.str [], .bool false, .sl0, .sl0, .bool false, .int .i64 0] := by kernel_rfl
theorem concrete118 : Try.prog.concrete 118 = true := by kernel_rfl
theorem size118 : (Try.prog.info? 118).map (·.size) = some 6 := by kernel_rfl
theorem aggSize119 : aggSize Try.prog 119 = some none := by kernel_rfl
theorem zeroCells119 : zeroCells Try.prog 119 = some [.nilfn] := by kernel_rfl
theorem concrete119 : Try.prog.concrete 119 = true := by kernel_rfl
theorem size119 : (Try.prog.info? 119).map (·.size) = some 1 := by kernel_rfl
theorem aggSize120 : aggSize Try.prog 120 = some none := by kernel_rfl
theorem zeroCells120 : zeroCells Try.prog 120 = some [.nilfn] := by kernel_rfl
theorem concrete120 : Try.prog.concrete 120 = true := by kernel_rfl
theorem size120 : (Try.prog.info? 120).map (·.size) = some 1 := by kernel_rfl
theorem aggSize121 : aggSize Try.prog 121 = some none := by kernel_rfl
theorem zeroCells121 : zeroCells Try.prog 121 = some [.nilfn] := by kernel_rfl
theorem concrete121 : Try.prog.concrete 121 = true := by kernel_rfl
theorem size121 : (Try.prog.info? 121).map (·.size) = some 1 := by kernel_rfl
theorem und122 : Try.prog.underlying 122 = some (.int .i64) := by kernel_rfl
theorem aggSize122 : aggSize Try.prog 122 = some none := by kernel_rfl
theorem zeroCells122 : zeroCells Try.prog 122 = some [.int .i64 0] := by kernel_rfl
theorem concrete122 : Try.prog.concrete 122 = true := by kernel_rfl
theorem size122 : (Try.prog.info? 122).map (·.size) = some 1 := by kernel_rfl
theorem aggSize123 : aggSize Try.prog 123 = some none := by kernel_rfl
theorem zeroCells123 : zeroCells Try.prog 123 = some [.nilfn] := by kernel_rfl
theorem concrete123 : Try.prog.concrete 123 = true := by kernel_rfl
theorem size123 : (Try.prog.info? 123).map (·.size) = some 1 := by kernel_rfl
theorem structOk124 : structOk Try.prog 124 = true := by kernel_rfl
theorem aggSize124 : aggSize Try.prog 124 = some (some 1) := by kernel_rfl
theorem fieldOff124_0 : fieldOff Try.prog 124 0 = some (0, 1, none) := by kernel_rfl
theorem zeroCells124 : zeroCells Try.prog 124 = some [.int .i64 0] := by kernel_rfl
theorem concrete124 : Try.prog.concrete 124 = true := by kernel_rfl
theorem size124 : (Try.prog.info? 124).map (·.size) = some 1 := by kernel_rfl
theorem structOk125 : structOk Try.prog 125 = true := by kernel_rfl
theorem aggSize125 : aggSize Try.prog 125 = some (some 1) := by kernel_rfl
theorem fieldOff125_0 : fieldOff Try.prog 125 0 = some (0, 1, none) := by kernel_rfl
theorem zeroCells125 : zeroCells Try.prog 125 = some [.int .i64 0] := by kernel_rfl
theorem concrete125 : Try.prog.concrete 125 = true := by kernel_rfl
theorem size125 : (Try.prog.info? 125).map (·.size) = some 1 := by kernel_rfl
theorem aggSize126 : aggSize Try.prog 126 = some none := by kernel_rfl
theorem zeroCells126 : zeroCells Try.prog 126 = some [.nilfn] := by kernel_rfl
theorem concrete126 : Try.prog.concrete 126 = true := by kernel_rfl
theorem size126 : (Try.prog.info? 126).map (·.size) = some 1 := by kernel_rfl
theorem isPtr127 : isPtr Try.prog 127 = true := by kernel_rfl
theorem aggSize127 : aggSize Try.prog 127 = some none := by kernel_rfl
theorem zeroCells127 : zeroCells Try.prog 127 = some [.nilp] := by kernel_rfl
theorem concrete127 : Try.prog.concrete 127 = true := by kernel_rfl
theorem size127 : (Try.prog.info? 127).map (·.size) = some 1 := by kernel_rfl
theorem aggSize128 : aggSize Try.prog 128 = some none := by kernel_rfl
theorem zeroCells128 : zeroCells Try.prog 128 = some [.any] := by kernel_rfl
theorem concrete128 : Try.prog.concrete 128 = true := by kernel_rfl
theorem size128 : (Try.prog.info? 128).map (·.size) = some 1 := by kernel_rfl
theorem structOk129 : structOk Try.prog 129 = true := by kernel_rfl
theorem aggSize129 : aggSize Try.prog 129 = some (some 1) := by kernel_rfl
theorem fieldOff129_0 : fieldOff Try.prog 129 0 = some (0, 1, none) := by kernel_rfl
theorem zeroCells129 : zeroCells Try.prog 129 = some [.any] := by kernel_rfl
theorem concrete129 : Try.prog.concrete 129 = true := by kernel_rfl
theorem size129 : (Try.prog.info? 129).map (·.size) = some 1 := by kernel_rfl
theorem structOk130 : structOk Try.prog 130 = true := by kernel_rfl
theorem aggSize130 : aggSize Try.prog 130 = some (some 1) := by kernel_rfl
theorem fieldOff130_0 : fieldOff Try.prog 130 0 = some (0, 1, none) := by kernel_rfl
theorem zeroCells130 : zeroCells Try.prog 130 = some [.any] := by kernel_rfl
theorem concrete130 : Try.prog.concrete 130 = true := by kernel_rfl
theorem size130 : (Try.prog.info? 130).map (·.size) = some 1 := by kernel_rfl
theorem structOk131 : structOk Try.prog 131 = true := by kernel_rfl
theorem aggSize131 : aggSize Try.prog 131 = some (some 2) := by kernel_rfl
theorem fieldOff131_0 : fieldOff Try.prog 131 0 = some (0, 1, none) := by kernel_rfl
theorem fieldOff131_1 : fieldOff Try.prog 131 1 = some (1, 1, none) := by kernel_rfl
theorem zeroCells131 : zeroCells Try.prog 131 = some [.str [], .str []] := by kernel_rfl
theorem concrete131 : Try.prog.concrete 131 = true := by kernel_rfl
theorem size131 : (Try.prog.info? 131).map (·.size) = some 2 := by kernel_rfl
theorem structOk132 : structOk Try.prog 132 = true := by kernel_rfl
theorem aggSize132 : aggSize Try.prog 132 = some (some 2) := by kernel_rfl
theorem fieldOff132_0 : fieldOff Try.prog 132 0 = some (0, 1, none) := by kernel_rfl
theorem fieldOff132_1 : fieldOff Try.prog 132 1 = some (1, 1, none) := by kernel_rfl
theorem zeroCells132 : zeroCells Try.prog 132 = some [.str [], .str []] := by kernel_rfl
theorem concrete132 : Try.prog.concrete 132 = true := by kernel_rfl
theorem size132 : (Try.prog.info? 132).map (·.size) = some 2 := by kernel_rfl
theorem aggSize133 : aggSize Try.prog 133 = some none := by kernel_rfl
theorem zeroCells133 : zeroCells Try.prog 133 = some [.nilfn] := by kernel_rfl
theorem concrete133 : Try.prog.concrete 133 = true := by kernel_rfl
theorem size133 : (Try.prog.info? 133).map (·.size) = some 1 := by kernel_rfl
theorem aggSize134 : aggSize Try.prog 134 = some none := by kernel_rfl
theorem zeroCells134 : zeroCells Try.prog 134 = some [.nilfn] := by kernel_rfl
theorem concrete134 : Try.prog.concrete 134 = true := by kernel_rfl
theorem size134 : (Try.prog.info? 134).map (·.size) = some 1 := by kernel_rfl
theorem aggSize135 : aggSize Try.prog 135 = some none := by kernel_rfl
theorem zeroCells135 : zeroCells Try.prog 135 = some [.nilfn] := by kernel_rfl
theorem concrete135 : Try.prog.concrete 135 = true := by kernel_rfl
theorem size135 : (Try.prog.info? 135).map (·.size) = some 1 := by kernel_rfl
theorem aggSize136 : aggSize Try.prog 136 = some none := by kernel_rfl
theorem zeroCells136 : zeroCells Try.prog 136 = some [.nilfn] := by kernel_rfl
theorem concrete136 : Try.prog.concrete 136 = true := by kernel_rfl
theorem size136 : (Try.prog.info? 136).map (·.size) = some 1 := by kernel_rfl
theorem isPtr137 : isPtr Try.prog 137 = true := by kernel_rfl
theorem aggSize137 : aggSize Try.prog 137 = some none := by kernel_rfl
theorem zeroCells137 : zeroCells Try.prog 137 = some [.nilp] := by kernel_rfl
theorem concrete137 : Try.prog.concrete 137 = true := by kernel_rfl
theorem size137 : (Try.prog.info? 137).map (·.size) = some 1 := by kernel_rfl
theorem aggSize138 : aggSize Try.prog 138 = some none := by kernel_rfl
theorem zeroCells138 : zeroCells Try.prog 138 = some [.nilfn] := by kernel_rfl
theorem concrete138 : Try.prog.concrete 138 = true := by kernel_rfl
theorem size138 : (Try.prog.info? 138).map (·.size) = some 1 := by kernel_rfl
theorem aggSize139 : aggSize Try.prog 139 = some none := by kernel_rfl
theorem zeroCells139 : zeroCells Try.prog 139 = some [.nilfn] := by kernel_rfl
theorem concrete139 : Try.prog.concrete 139 = true := by kernel_rfl
theorem size139 : (Try.prog.info? 139).map (·.size) = some 1 := by kernel_rfl
theorem aggSize140 : aggSize Try.prog 140 = some none := by kernel_rfl
theorem zeroCells140 : zeroCells Try.prog 140 = some [.nilif] := by kernel_rfl
theorem size140 : (Try.prog.info? 140).map (·.size) = some 1 := by kernel_rfl
theorem aggSize141 : aggSize Try.prog 141 = some none := by kernel_rfl
theorem zeroCells141 : zeroCells Try.prog 141 = some [.nilif] := by kernel_rfl
theorem size141 : (Try.prog.info? 141).map (·.size) = some 1 := by kernel_rfl
theorem aggSize143 : aggSize Try.prog 143 = some none := by kernel_rfl
theorem zeroCells143 : zeroCells Try.prog 143 = some [.nilfn] := by kernel_rfl
theorem concrete143 : Try.prog.concrete 143 = true := by kernel_rfl
theorem size143 : (Try.prog.info? 143).map (·.size) = some 1 := by kernel_rfl
theorem aggSize144 : aggSize Try.prog 144 = some none := by kernel_rfl
theorem zeroCells144 : zeroCells Try.prog 144 = some [.nilfn] := by kernel_rfl
theorem concrete144 : Try.prog.concrete 144 = true := by kernel_rfl
theorem size144 : (Try.prog.info? 144).map (·.size) = some 1 := by kernel_rfl
theorem aggSize145 : aggSize Try.prog 145 = some none := by kernel_rfl
theorem zeroCells145 : zeroCells Try.prog 145 = some [.nilfn] := by kernel_rfl
theorem concrete145 : Try.prog.concrete 145 = true := by kernel_rfl
theorem size145 : (Try.prog.info? 145).map (·.size) = some 1 := by kernel_rfl
theorem aggSize146 : aggSize Try.prog 146 = some none := by kernel_rfl
theorem zeroCells146 : zeroCells Try.prog 146 = some [.nilfn] := by kernel_rfl
theorem concrete146 : Try.prog.concrete 146 = true := by kernel_rfl
theorem size146 : (Try.prog.info? 146).map (·.size) = some 1 := by kernel_rfl
theorem aggSize147 : aggSize Try.prog 147 = some none := by kernel_rfl
theorem zeroCells147 : zeroCells Try.prog 147 = some [.nilfn] := by kernel_rfl
theorem concrete147 : Try.prog.concrete 147 = true := by kernel_rfl
theorem size147 : (Try.prog.info? 147).map (·.size) = some 1 := by kernel_rfl
theorem aggSize148 : aggSize Try.prog 148 = some none := by kernel_rfl
theorem zeroCells148 : zeroCells Try.prog 148 = some [.nilfn] := by kernel_rfl
theorem concrete148 : Try.prog.concrete 148 = true := by kernel_rfl
theorem size148 : (Try.prog.info? 148).map (·.size) = some 1 := by kernel_rfl
theorem aggSize149 : aggSize Try.prog 149 = some none := by kernel_rfl
theorem zeroCells149 : zeroCells Try.prog 149 = some [.nilfn] := by kernel_rfl
theorem concrete149 : Try.prog.concrete 149 = true := by kernel_rfl
theorem size149 : (Try.prog.info? 149).map (·.size) = some 1 := by kernel_rfl
theorem aggSize150 : aggSize Try.prog 150 = some none := by kernel_rfl
theorem zeroCells150 : zeroCells Try.prog 150 = some [.nilfn] := by kernel_rfl
theorem concrete150 : Try.prog.concrete 150 = true := by kernel_rfl
theorem size150 : (Try.prog.info? 150).map (·.size) = some 1 := by kernel_rfl
theorem aggSize151 : aggSize Try.prog 151 = some none := by kernel_rfl
theorem zeroCells151 : zeroCells Try.prog 151 = some [.nilfn] := by kernel_rfl
theorem concrete151 : Try.prog.concrete 151 = true := by kernel_rfl
theorem size151 : (Try.prog.info? 151).map (·.size) = some 1 := by kernel_rfl
theorem aggSize152 : aggSize Try.prog 152 = some none := by kernel_rfl
theorem zeroCells152 : zeroCells Try.prog 152 = some [.nilfn] := by kernel_rfl
theorem concrete152 : Try.prog.concrete 152 = true := by kernel_rfl
theorem size152 : (Try.prog.info? 152).map (·.size) = some 1 := by kernel_rfl
theorem aggSize153 : aggSize Try.prog 153 = some none := by kernel_rfl
theorem zeroCells153 : zeroCells Try.prog 153 = some [.nilfn] := by kernel_rfl
theorem concrete153 : Try.prog.concrete 153 = true := by kernel_rfl
theorem size153 : (Try.prog.info? 153).map (·.size) = some 1 := by kernel_rfl
theorem aggSize154 : aggSize Try.prog 154 = some none := by kernel_rfl
theorem zeroCells154 : zeroCells Try.prog 154 = some [.nilfn] := by kernel_rfl
theorem concrete154 : Try.prog.concrete 154 = true := by kernel_rfl
theorem size154 : (Try.prog.info? 154).map (·.size) = some 1 := by kernel_rfl
theorem aggSize158 : aggSize Try.prog 158 = some none := by kernel_rfl
theorem zeroCells158 : zeroCells Try.prog 158 = some [.nilfn] := by kernel_rfl
theorem concrete158 : Try.prog.concrete 158 = true := by kernel_rfl
theorem size158 : (Try.prog.info? 158).map (·.size) = some 1 := by kernel_rfl
theorem aggSize159 : aggSize Try.prog 159 = some none := by kernel_rfl
theorem zeroCells159 : zeroCells Try.prog 159 = some [.nilfn] := by kernel_rfl
theorem concrete159 : Try.prog.concrete 159 = true := by kernel_rfl
theorem size159 : (Try.prog.info? 159).map (·.size) = some 1 := by kernel_rfl
theorem aggSize160 : aggSize Try.prog 160 = some none := by kernel_rfl
theorem zeroCells160 : zeroCells Try.prog 160 = some [.nilfn] := by kernel_rfl
theorem concrete160 : Try.prog.concrete 160 = true := by kernel_rfl
theorem size160 : (Try.prog.info? 160).map (·.size) = some 1 := by kernel_rfl
theorem aggSize161 : aggSize Try.prog 161 = some none := by kernel_rfl
theorem zeroCells161 : zeroCells Try.prog 161 = some [.nilfn] := by kernel_rfl
theorem concrete161 : Try.prog.concrete 161 = true := by kernel_rfl
theorem size161 : (Try.prog.info? 161).map (·.size) = some 1 := by kernel_rfl
theorem und162 : Try.prog.underlying 162 = some (.int .u64) := by kernel_rfl
theorem aggSize162 : aggSize Try.prog 162 = some none := by kernel_rfl
theorem zeroCells162 : zeroCells Try.prog 162 = some [.int .u64 0] := by kernel_rfl
theorem concrete162 : Try.prog.concrete 162 = true := by kernel_rfl
theorem size162 : (Try.prog.info? 162).map (·.size) = some 1 := by kernel_rfl
theorem aggSize163 : aggSize Try.prog 163 = some none := by kernel_rfl
theorem zeroCells163 : zeroCells Try.prog 163 = some [.nilp] := by kernel_rfl
theorem concrete163 : Try.prog.concrete 163 = true := by kernel_rfl
theorem size163 : (Try.prog.info? 163).map (·.size) = some 1 := by kernel_rfl
theorem aggSize164 : aggSize Try.prog 164 = some none := by kernel_rfl
theorem zeroCells164 : zeroCells Try.prog 164 = some [.nilfn] := by kernel_rfl
theorem concrete164 : Try.prog.concrete 164 = true := by kernel_rfl
theorem size164 : (Try.prog.info? 164).map (·.size) = some 1 := by kernel_rfl
theorem aggSize165 : aggSize Try.prog 165 = some none := by kernel_rfl
theorem zeroCells165 : zeroCells Try.prog 165 = some [.nilfn] := by kernel_rfl
theorem concrete165 : Try.prog.concrete 165 = true := by kernel_rfl
theorem size165 : (Try.prog.info? 165).map (·.size) = some 1 := by kernel_rfl
theorem aggSize166 : aggSize Try.prog 166 = some none := by kernel_rfl
theorem zeroCells166 : zeroCells Try.prog 166 = some [.nilfn] := by kernel_rfl
theorem concrete166 : Try.prog.concrete 166 = true := by kernel_rfl
theorem size166 : (Try.prog.info? 166).map (·.size) = some 1 := by kernel_rfl
theorem isPtr167 : isPtr Try.prog 167 = true := by kernel_rfl
theorem aggSize167 : aggSize Try.prog 167 = some none := by kernel_rfl
theorem zeroCells167 : zeroCells Try.prog 167 = some [.nilp] := by kernel_rfl
theorem concrete167 : Try.prog.concrete 167 = true := by kernel_rfl
theorem size167 : (Try.prog.info? 167).map (·.size) = some 1 := by kernel_rfl
theorem aggSize168 : aggSize Try.prog 168 = some none := by kernel_rfl
theorem zeroCells168 : zeroCells Try.prog 168 = some [.nilfn] := by kernel_rfl
theorem concrete168 : Try.prog.concrete 168 = true := by kernel_rfl
theorem size168 : (Try.prog.info? 168).map (·.size) = some 1 := by kernel_rfl
theorem aggSize169 : aggSize Try.prog 169 = some none := by kernel_rfl
theorem zeroCells169 : zeroCells Try.prog 169 = some [.nilfn] := by kernel_rfl
theorem concrete169 : Try.prog.concrete 169 = true := by kernel_rfl
theorem size169 : (Try.prog.info? 169).map (·.size) = some 1 := by kernel_rfl
theorem und170 : Try.prog.underlying 170 = some (.int .i64) := by kernel_rfl
theorem aggSize170 : aggSize Try.prog 170 = some none := by kernel_rfl
theorem zeroCells170 : zeroCells Try.prog 170 = some [.int .i64 0] := by kernel_rfl
theorem concrete170 : Try.prog.concrete 170 = true := by kernel_rfl
theorem size170 : (Try.prog.info? 170).map (·.size) = some 1 := by kernel_rfl
theorem aggSize172 : aggSize Try.prog 172 = some none := by kernel_rfl
theorem zeroCells172 : zeroCells Try.prog 172 = some [.nilfn] := by kernel_rfl
theorem concrete172 : Try.prog.concrete 172 = true := by kernel_rfl
theorem size172 : (Try.prog.info? 172).map (·.size) = some 1 := by kernel_rfl
theorem aggSize173 : aggSize Try.prog 173 = some none := by kernel_rfl
theorem zeroCells173 : zeroCells Try.prog 173 = some [.nilfn] := by kernel_rfl
theorem concrete173 : Try.prog.concrete 173 = true := by kernel_rfl
theorem size173 : (Try.prog.info? 173).map (·.size) = some 1 := by kernel_rfl
theorem aggSize174 : aggSize Try.prog 174 = some none := by kernel_rfl
theorem zeroCells174 : zeroCells Try.prog 174 = some [.nilfn] := by kernel_rfl
theorem concrete174 : Try.prog.concrete 174 = true := by kernel_rfl
theorem size174 : (Try.prog.info? 174).map (·.size) = some 1 := by kernel_rfl
theorem aggSize176 : aggSize Try.prog 176 = some none := by kernel_rfl
theorem zeroCells176 : zeroCells Try.prog 176 = some [.nilfn] := by kernel_rfl
theorem concrete176 : Try.prog.concrete 176 = true := by kernel_rfl
theorem size176 : (Try.prog.info? 176).map (·.size) = some 1 := by kernel_rfl
theorem aggSize177 : aggSize Try.prog 177 = some none := by kernel_rfl
theorem zeroCells177 : zeroCells Try.prog 177 = some [.nilfn] := by kernel_rfl
theorem concrete177 : Try.prog.concrete 177 = true := by kernel_rfl
theorem size177 : (Try.prog.info? 177).map (·.size) = some 1 := by kernel_rfl
theorem und178 : Try.prog.underlying 178 = some (.int .u32) := by kernel_rfl
theorem aggSize178 : aggSize Try.prog 178 = some none := by kernel_rfl
theorem zeroCells178 : zeroCells Try.prog 178 = some [.int .u32 0] := by kernel_rfl
theorem concrete178 : Try.prog.concrete 178 = true := by kernel_rfl
theorem size178 : (Try.prog.info? 178).map (·.size) = some 1 := by kernel_rfl
theorem aggSize179 : aggSize Try.prog 179 = some none := by kernel_rfl
theorem zeroCells179 : zeroCells Try.prog 179 = some [.nilfn] := by kernel_rfl
theorem concrete179 : Try.prog.concrete 179 = true := by kernel_rfl
theorem size179 : (Try.prog.info? 179).map (·.size) = some 1 := by kernel_rfl
theorem und180 : Try.prog.underlying 180 = some (.int .u64) := by kernel_rfl
theorem aggSize180 : aggSize Try.prog 180 = some none := by kernel_rfl
theorem zeroCells180 : zeroCells Try.prog 180 = some [.int .u64 0] := by kernel_rfl
theorem concrete180 : Try.prog.concrete 180 = true := by kernel_rfl
theorem size180 : (Try.prog.info? 180).map (·.size) = some 1 := by kernel_rfl
theorem aggSize181 : aggSize Try.prog 181 = some none := by kernel_rfl
theorem zeroCells181 : zeroCells Try.prog 181 = some [.nilfn] := by kernel_rfl
theorem concrete181 : Try.prog.concrete 181 = true := by kernel_rfl
theorem size181 : (Try.prog.info? 181).map (·.size) = some 1 := by kernel_rfl
theorem aggSize183 : aggSize Try.prog 183 = some none := by kernel_rfl
theorem zeroCells183 : zeroCells Try.prog 183 = some [.nilfn] := by kernel_rfl
theorem concrete183 : Try.prog.concrete 183 = true := by kernel_rfl
theorem size183 : (Try.prog.info? 183).map (·.size) = some 1 := by kernel_rfl
theorem aggSize184 : aggSize Try.prog 184 = some none := by kernel_rfl
theorem zeroCells184 : zeroCells Try.prog 184 = some [.nilfn] := by kernel_rfl
theorem concrete184 : Try.prog.concrete 184 = true := by kernel_rfl
theorem size184 : (Try.prog.info? 184).map (·.size) = some 1 := by kernel_rfl
theorem und185 : Try.prog.underlying 185 = some (.int .u64) := by kernel_rfl
theorem aggSize185 : aggSize Try.prog 185 = some none := by kernel_rfl
theorem zeroCells185 : zeroCells Try.prog 185 = some [.int .u64 0] := by kernel_rfl
theorem concrete185 : Try.prog.concrete 185 = true := by kernel_rfl
theorem size185 : (Try.prog.info? 185).map (·.size) = some 1 := by kernel_rfl
theorem aggSize186 : aggSize Try.prog 186 = some none := by kernel_rfl
theorem zeroCells186 : zeroCells Try.prog 186 = some [.nilfn] := by kernel_rfl
theorem concrete186 : Try.prog.concrete 186 = true := by kernel_rfl
theorem size186 : (Try.prog.info? 186).map (·.size) = some 1 := by kernel_rfl
theorem aggSize187 : aggSize Try.prog 187 = some none := by kernel_rfl
theorem zeroCells187 : zeroCells Try.prog 187 = some [.nilfn] := by kernel_rfl
theorem concrete187 : Try.prog.concrete 187 = true := by kernel_rfl
theorem size187 : (Try.prog.info? 187).map (·.size) = some 1 := by kernel_rfl
theorem aggSize188 : aggSize Try.prog 188 = some none := by kernel_rfl
theorem zeroCells188 : zeroCells Try.prog 188 = some [.nilfn] := by kernel_rfl
theorem concrete188 : Try.prog.concrete 188 = true := by kernel_rfl
theorem size188 : (Try.prog.info? 188).map (·.size) = some 1 := by kernel_rfl
theorem isPtr189 : isPtr Try.prog 189 = true := by kernel_rfl
theorem aggSize189 : aggSize Try.prog 189 = some none := by kernel_rfl
theorem zeroCells189 : zeroCells Try.prog 189 = some [.nilp] := by kernel_rfl
theorem concrete189 : Try.prog.concrete 189 = true := by kernel_rfl
theorem size189 : (Try.prog.info? 189).map (·.size) = some 1 := by kernel_rfl
theorem aggSize190 : aggSize Try.prog 190 = some none := by kernel_rfl
theorem zeroCells190 : zeroCells Try.prog 190 = some [.nilfn] := by kernel_rfl
theorem concrete190 : Try.prog.concrete 190 = true := by kernel_rfl
theorem size190 : (Try.prog.info? 190).map (·.size) = some 1 := by kernel_rfl
theorem isPtr191 : isPtr Try.prog 191 = true := by kernel_rfl
theorem aggSize191 : aggSize Try.prog 191 = some none := by kernel_rfl
theorem zeroCells191 : zeroCells Try.prog 191 = some [.nilp] := by kernel_rfl
theorem concrete191 : Try.prog.concrete 191 = true := by kernel_rfl
theorem size191 : (Try.prog.info? 191).map (·.size) = some 1 := by kernel_rfl
theorem aggSize193 : aggSize Try.prog 193 = some none := by kernel_rfl
theorem zeroCells193 : zeroCells Try.prog 193 = some [.nilfn] := by kernel_rfl
theorem concrete193 : Try.prog.concrete 193 = true := by kernel_rfl
theorem size193 : (Try.prog.info? 193).map (·.size) = some 1 := by kernel_rfl
theorem structOk194 : structOk Try.prog 194 = true := by kernel_rfl
theorem aggSize194 : aggSize Try.prog 194 = some (some 4) := by kernel_rfl
theorem fieldOff194_0 : fieldOff Try.prog 194 0 = some (0, 1, none) := by kernel_rfl
theorem fieldOff194_1 : fieldOff Try.prog 194 1 = some (1, 1, none) := by kernel_rfl
theorem fieldOff194_2 : fieldOff Try.prog 194 2 = some (2, 1, none) := by kernel_rfl
theorem fieldOff194_3 : fieldOff Try.prog 194 3 = some (3, 1, none) := by kernel_rfl
theorem zeroCells194 : zeroCells Try.prog 194 = some [.nilp, .nilp, .nilp, .str []] := by kernel_rfl
theorem concrete194 : Try.prog.concrete 194 = true := by kernel_rfl
theorem size194 : (Try.prog.info? 194).map (·.size) = some 4 := by kernel_rfl
theorem structOk195 : structOk Try.prog 195 = true := by kernel_rfl
theorem aggSize195 : aggSize Try.prog 195 = some (some 4) := by kernel_rfl
theorem fieldOff195_0 : fieldOff Try.prog 195 0 = some (0, 1, none) := by kernel_rfl
theorem fieldOff195_1 : fieldOff Try.prog 195 1 = some (1, 1, none) := by kernel_rfl
theorem fieldOff195_2 : fieldOff Try.prog 195 2 = some (2, 1, none) := by kernel_rfl
theorem fieldOff195_3 : fieldOff Try.prog 195 3 = some (3, 1, none) := by kernel_rfl
theorem zeroCells195 : zeroCells Try.prog 195 = some [.nilp, .nilp, .nilp, .str []] := by kernel_rfl
theorem concrete195 : Try.prog.concrete 195 = true := by kernel_rfl
theorem size195 : (Try.prog.info? 195).map (·.size) = some 4 := by kernel_rfl
theorem und199 : Try.prog.underlying 199 = some (.int .u8) := by kernel_rfl
theorem aggSize199 : aggSize Try.prog 199 = some none := by kernel_rfl
theorem zeroCells199 : zeroCells Try.prog 199 = some [.int .u8 0] := by kernel_rfl
theorem concrete199 : Try.prog.concrete 199 = true := by kernel_rfl
theorem size199 : (Try.prog.info? 199).map (·.size) = some 1 := by kernel_rfl
theorem und200 : Try.prog.underlying 200 = some (.int .u8) := by kernel_rfl
theorem aggSize200 : aggSize Try.prog 200 = some none := by kernel_rfl
theorem zeroCells200 : zeroCells Try.prog 200 = some [.int .u8 0] := by kernel_rfl
theorem concrete200 : Try.prog.concrete 200 = true := by kernel_rfl
theorem size200 : (Try.prog.info? 200).map (·.size) = some 1 := by kernel_rfl
theorem aggSize201 : aggSize Try.prog 201 = some none := by kernel_rfl
theorem zeroCells201 : zeroCells Try.prog 201 = some [.nilfn] := by kernel_rfl
theorem concrete201 : Try.prog.concrete 201 = true := by kernel_rfl
theorem size201 : (Try.prog.info? 201).map (·.size) = some 1 := by kernel_rfl
theorem und202 : Try.prog.underlying 202 = some (.int .i32) := by kernel_rfl
theorem aggSize202 : aggSize Try.prog 202 = some none := by kernel_rfl
theorem zeroCells202 : zeroCells Try.prog 202 = some [.int .i32 0] := by kernel_rfl
theorem concrete202 : Try.prog.concrete 202 = true := by kernel_rfl
theorem size202 : (Try.prog.info? 202).map (·.size) = some 1 := by kernel_rfl
theorem und203 : Try.prog.underlying 203 = some (.int .i32) := by kernel_rfl
theorem aggSize203 : aggSize Try.prog 203 = some none := by kernel_rfl
theorem zeroCells203 : zeroCells Try.prog 203 = some [.int .i32 0] := by kernel_rfl
theorem concrete203 : Try.prog.concrete 203 = true := by kernel_rfl
theorem size203 : (Try.prog.info? 203).map (·.size) = some 1 := by kernel_rfl
theorem structOk204 : structOk Try.prog 204 = true := by kernel_rfl
theorem aggSize204 : aggSize Try.prog 204 = some (some 11) := by kernel_rfl
theorem fieldOff204_0 : fieldOff Try.prog 204 0 = some (0, 1, none) := by kernel_rfl
theorem fieldOff204_1 : fieldOff Try.prog 204 1 = some (1, 1, none) := by kernel_rfl
theorem fieldOff204_2 : fieldOff Try.prog 204 2 = some (2, 1, none) := by kernel_rfl
theorem fieldOff204_3 : fieldOff Try.prog 204 3 = some (3, 1, none) := by kernel_rfl
theorem fieldOff204_4 : fieldOff Try.prog 204 4 = some (4, 1, none) := by kernel_rfl
theorem fieldOff204_5 : fieldOff Try.prog 204 5 = some (5, 1, none) := by kernel_rfl
theorem fieldOff204_6 : fieldOff Try.prog 204 6 = some (6, 1, none) := by kernel_rfl
theorem fieldOff204_7 : fieldOff Try.prog 204 7 = some (7, 1, none) := by kernel_rfl
theorem fieldOff204_8 : fieldOff Try.prog 204 8 = some (8, 1, none) := by kernel_rfl
theorem fieldOff204_9 : fieldOff Try.prog 204 9 = some (9, 1, none) := by kernel_rfl
theorem fieldOff204_10 : fieldOff Try.prog 204 10 = some (10, 1, none) := by kernel_rfl
theorem zeroCells204 : zeroCells Try.prog 204 = some [.int .u64 0, .int .u64 0, .int .u32 0, .int .u8 0, .int .u8 0, .int .u8 0, .int .u8 0, .nilfn, .nilp, .int .i32 0, .int .i32 0] := by kernel_rfl
theorem concrete204 : Try.prog.concrete 204 = true := by kernel_rfl
theorem size204 : (Try.prog.info? 204).map (·.size) = some 11 := by kernel_rfl
theorem structOk205 : structOk Try.prog 205 = true := by kernel_rfl
theorem aggSize205 : aggSize Try.prog 205 = some (some 11) := by kernel_rfl
theorem fieldOff205_0 : fieldOff Try.prog 205 0 = some (0, 1, none) := by kernel_rfl
theorem fieldOff205_1 : fieldOff Try.prog 205 1 = some (1, 1, none) := by kernel_rfl
theorem fieldOff205_2 : fieldOff Try.prog 205 2 = some (2, 1, none) := by kernel_rfl
theorem fieldOff205_3 : fieldOff Try.prog 205 3 = some (3, 1, none) := by kernel_rfl
theorem fieldOff205_4 : fieldOff Try.prog 205 4 = some (4, 1, none) := by kernel_rfl
theorem fieldOff205_5 : fieldOff Try.prog 205 5 = some (5, 1, none) := by kernel_rfl
theorem fieldOff205_6 : fieldOff Try.prog 205 6 = some (6, 1, none) := by kernel_rfl
theorem fieldOff205_7 : fieldOff Try.prog 205 7 = some (7, 1, none) := by kernel_rfl
theorem fieldOff205_8 : fieldOff Try.prog 205 8 = some (8, 1, none) := by kernel_rfl
theorem fieldOff205_9 : fieldOff Try.prog 205 9 = some (9, 1, none) := by kernel_rfl
theorem fieldOff205_10 : fieldOff Try.prog 205 10 = some (10, 1, none) := by kernel_rfl
theorem zeroCells205 : zeroCells Try.prog 205 = some [.int .u64 0, .int .u64 0, .int .u32 0, .int .u8 0, .int .u8 0, .int .u8 0, .int .u8 0, .nilfn, .nilp, .int .i32 0, .int .i32 0] := by kernel_rfl
theorem concrete205 : Try.prog.concrete 205 = true := by kernel_rfl
theorem size205 : (Try.prog.info? 205).map (·.size) = some 11 := by kernel_rfl
theorem isSl206 : isSl Try.prog 206 = true := by kernel_rfl
theorem elemSize206 : elemSize Try.prog 206 = some 1 := by kernel_rfl
theorem elemZero206 : elemZero Try.prog 206 = true := by kernel_rfl
theorem und206 : (Try.prog.underlying 206).isSome = true := by kernel_rfl
theorem bytesToStr206 : bytesToStr Try.prog 206 9 = false := by kernel_rfl
theorem aggSize206 : aggSize Try.prog 206 = some none := by kernel_rfl
theorem zeroCells206 : zeroCells Try.prog 206 = some [.sl0] := by kernel_rfl
theorem concrete206 : Try.prog.concrete 206 = true := by kernel_rfl
theorem size206 : (Try.prog.info? 206).map (·.size) = some 1 := by kernel_rfl
theorem isSl207 : isSl Try.prog 207 = true := by kernel_rfl
theorem elemSize207 : elemSize Try.prog 207 = some 1 := by kernel_rfl
theorem elemZero207 : elemZero Try.prog 207 = true := by kernel_rfl
theorem und207 : (Try.prog.underlying 207).isSome = true := by kernel_rfl
theorem bytesToStr207 : bytesToStr Try.prog 207 9 = false := by kernel_rfl
theorem aggSize207 : aggSize Try.prog 207 = some none := by kernel_rfl
theorem zeroCells207 : zeroCells Try.prog 207 = some [.sl0] := by kernel_rfl
theorem concrete207 : Try.prog.concrete 207 = true := by kernel_rfl
theorem size207 : (Try.prog.info? 207).map (·.size) = some 1 := by kernel_rfl
theorem isSl208 : isSl Try.prog 208 = true := by kernel_rfl
theorem elemSize208 : elemSize Try.prog 208 = some 4 := by kernel_rfl
theorem elemZero208 : elemZero Try.prog 208 = true := by kernel_rfl
theorem und208 : (Try.prog.underlying 208).isSome = true := by kernel_rfl
theorem bytesToStr208 : bytesToStr Try.prog 208 9 = false := by kernel_rfl
theorem aggSize208 : aggSize Try.prog 208 = some none := by kernel_rfl
theorem zeroCells208 : zeroCells Try.prog 208 = some [.sl0] := by kernel_rfl
theorem concrete208 : Try.prog.concrete 208 = true := by kernel_rfl
theorem size208 : (Try.prog.info? 208).map (·.size) = some 1 := by kernel_rfl
theorem isSl209 : isSl Try.prog 209 = true := by kernel_rfl
theorem elemSize209 : elemSize Try.prog 209 = some 11 := by kernel_rfl
theorem elemZero209 : elemZero Try.prog 209 = true := by kernel_rfl
theorem und209 : (Try.prog.underlying 209).isSome = true := by kernel_rfl
theorem bytesToStr209 : bytesToStr Try.prog 209 9 = false := by kernel_rfl
theorem aggSize209 : aggSize Try.prog 209 = some none := by kernel_rfl
theorem zeroCells209 : zeroCells Try.prog 209 = some [.sl0] := by kernel_rfl
theorem concrete209 : Try.prog.concrete 209 = true := by kernel_rfl
theorem size209 : (Try.prog.info? 209).map (·.size) = some 1 := by kernel_rfl
theorem structOk210 : structOk Try.prog 210 = true := by kernel_rfl
theorem aggSize210 : aggSize Try.prog 210 = some (some 10) := by kernel_rfl
theorem fieldOff210_0 : fieldOff Try.prog 210 0 = some (0, 1, none) := by kernel_rfl
theorem fieldOff210_1 : fieldOff Try.prog 210 1 = some (1, 1, none) := by kernel_rfl
theorem fieldOff210_2 : fieldOff Try.prog 210 2 = some (2, 1, none) := by kernel_rfl
theorem fieldOff210_3 : fieldOff Try.prog 210 3 = some (3, 1, none) := by kernel_rfl
theorem fieldOff210_4 : fieldOff Try.prog 210 4 = some (4, 1, none) := by kernel_rfl
theorem fieldOff210_5 : fieldOff Try.prog 210 5 = some (5, 1, none) := by kernel_rfl
theorem fieldOff210_6 : fieldOff Try.prog 210 6 = some (6, 1, none) := by kernel_rfl
theorem fieldOff210_7 : fieldOff Try.prog 210 7 = some (7, 1, none) := by kernel_rfl
theorem fieldOff210_8 : fieldOff Try.prog 210 8 = some (8, 1, none) := by kernel_rfl
theorem fieldOff210_9 : fieldOff Try.prog 210 9 = some (9, 1, none) := by kernel_rfl
theorem zeroCells210 : zeroCells Try.prog 210 = some [.int .i64 0, .str [], .bool false, .bool false, .sl0, .sl0, .sl0, .sl0, .sl0, .sl0] := by kernel_rfl
theorem concrete210 : Try.prog.concrete 210 = true := by kernel_rfl
theorem size210 : (Try.prog.info? 210).map (·.size) = some 10 := by kernel_rfl
theorem structOk211 : structOk Try.prog 211 = true := by kernel_rfl
theorem aggSize211 : aggSize Try.prog 211 = some (some 10) := by kernel_rfl
theorem fieldOff211_0 : fieldOff Try.prog 211 0 = some (0, 1, none) := by kernel_rfl
theorem fieldOff211_1 : fieldOff Try.prog 211 1 = some (1, 1, none) := by kernel_rfl
theorem fieldOff211_2 : fieldOff Try.prog 211 2 = some (2, 1, none) := by kernel_rfl
theorem fieldOff211_3 : fieldOff Try.prog 211 3 = some (3, 1, none) := by kernel_rfl
theorem fieldOff211_4 : fieldOff Try.prog 211 4 = some (4, 1, none) := by kernel_rfl
theorem fieldOff211_5 : fieldOff Try.prog 211 5 = some (5, 1, none) := by kernel_rfl
theorem fieldOff211_6 : fieldOff Try.prog 211 6 = some (6, 1, none) := by kernel_rfl
theorem fieldOff211_7 : fieldOff Try.prog 211 7 = some (7, 1, none) := by kernel_rfl
theorem fieldOff211_8 : fieldOff Try.prog 211 8 = some (8, 1, none) := by kernel_rfl
theorem fieldOff211_9 : fieldOff Try.prog 211 9 = some (9, 1, none) := by kernel_rfl
theorem zeroCells211 : zeroCells Try.prog 211 = some [.int .i64 0, .str [], .bool false, .bool false, .sl0, .sl0, .sl0, .sl0, .sl0, .sl0] := by kernel_rfl
theorem concrete211 : Try.prog.concrete 211 = true := by kernel_rfl
theorem size211 : (Try.prog.info? 211).map (·.size) = some 10 := by kernel_rfl
theorem structOk212 : structOk Try.prog 212 = true := by kernel_rfl
theorem aggSize212 : aggSize Try.prog 212 = some (some 4) := by kernel_rfl
theorem fieldOff212_0 : fieldOff Try.prog 212 0 = some (0, 1, none) := by kernel_rfl
theorem fieldOff212_1 : fieldOff Try.prog 212 1 = some (1, 1, none) := by kernel_rfl
theorem fieldOff212_2 : fieldOff Try.prog 212 2 = some (2, 1, some 1) := by kernel_rfl
theorem fieldOff212_3 : fieldOff Try.prog 212 3 = some (3, 1, none) := by kernel_rfl
theorem zeroCells212 : zeroCells Try.prog 212 = some [.str [], .int .i64 0, .sl0, .str []] := by kernel_rfl
theorem concrete212 : Try.prog.concrete 212 = true := by kernel_rfl
theorem size212 : (Try.prog.info? 212).map (·.size) = some 4 := by kernel_rfl
theorem structOk213 : structOk Try.prog 213 = true := by kernel_rfl
theorem aggSize213 : aggSize Try.prog 213 = some (some 4) := by kernel_rfl
theorem fieldOff213_0 : fieldOff Try.prog 213 0 = some (0, 1, none) := by kernel_rfl
theorem fieldOff213_1 : fieldOff Try.prog 213 1 = some (1, 1, none) := by kernel_rfl
theorem fieldOff213_2 : fieldOff Try.prog 213 2 = some (2, 1, some 1) := by kernel_rfl
theorem fieldOff213_3 : fieldOff Try.prog 213 3 = some (3, 1, none) := by kernel_rfl
theorem zeroCells213 : zeroCells Try.prog 213 = some [.str [], .int .i64 0, .sl0, .str []] := by kernel_rfl
theorem concrete213 : Try.prog.concrete 213 = true := by kernel_rfl
theorem size213 : (Try.prog.info? 213).map (·.size) = some 4 := by kernel_rfl
theorem structOk214 : structOk Try.prog 214 = true := by kernel_rfl
theorem aggSize214 : aggSize Try.prog 214 = some (some 11) := by kernel_rfl
theorem fieldOff214_0 : fieldOff Try.prog 214 0 = some (0, 1, none) := by kernel_rfl
theorem fieldOff214_1 : fieldOff Try.prog 214 1 = some (1, 10, some 10) := by kernel_rfl
theorem zeroCells214 : zeroCells Try.prog 214 = some [.sl0, .int .i64 0, .str [], .bool false, .bool false, .sl0, .sl0, .sl0, .sl0, .sl0, .sl0] := by kernel_rfl
theorem concrete214 : Try.prog.concrete 214 = true := by kernel_rfl
theorem size214 : (Try.prog.info? 214).map (·.size) = some 11 := by kernel_rfl
theorem structOk215 : structOk Try.prog 215 = true := by kernel_rfl
theorem aggSize215 : aggSize Try.prog 215 = some (some 11) := by kernel_rfl
theorem fieldOff215_0 : fieldOff Try.prog 215 0 = some (0, 1, none) := by kernel_rfl
theorem fieldOff215_1 : fieldOff Try.prog 215 1 = some (1, 10, some 10) := by kernel_rfl
theorem zeroCells215 : zeroCells Try.prog 215 = some [.sl0, .int .i64 0, .str [], .bool false, .bool false, .sl0, .sl0, .sl0, .sl0, .sl0, .sl0] := by kernel_rfl
theorem concrete215 : Try.prog.concrete 215 = true := by kernel_rfl
theorem size215 : (Try.prog.info? 215).map (·.size) = some 11 := by kernel_rfl
theorem call3 : callable Try.prog 3 = true := by kernel_rfl
theorem call4 : callable Try.prog 4 = true := by kernel_rfl
theorem call5 : callable Try.prog 5 = true := by kernel_rfl
theorem call6 : callable Try.prog 6 = true := by kernel_rfl
theorem call7 : callable Try.prog 7 = true := by kernel_rfl
theorem call8 : callable Try.prog 8 = true := by kernel_rfl
theorem call9 : callable Try.prog 9 = true := by kernel_rfl
theorem call10 : callable Try.prog 10 = true := by kernel_rfl
theorem call11 : callable Try.prog 11 = true := by kernel_rfl
theorem call12 : callable Try.prog 12 = true := by kernel_rfl
theorem call13 : callable Try.prog 13 = true := by kernel_rfl
theorem call14 : callable Try.prog 14 = true := by kernel_rfl
theorem call15 : callable Try.prog 15 = true := by kernel_rfl
theorem call16 : callable Try.prog 16 = true := by kernel_rfl
theorem call17 : callable Try.prog 17 = true := by kernel_rfl
theorem call18 : callable Try.prog 18 = true := by kernel_rfl
theorem call19 : callable Try.prog 19 = true := by kernel_rfl
theorem call20 : callable Try.prog 20 = true := by kernel_rfl
theorem call21 : callable Try.prog 21 = true := by kernel_rfl
theorem call22 : callable Try.prog 22 = true := by kernel_rfl
theorem call23 : callable Try.prog 23 = true := by kernel_rfl
theorem call24 : callable Try.prog 24 = true := by kernel_rfl
theorem call25 : callable Try.prog 25 = true := by kernel_rfl
theorem call26 : callable Try.prog 26 = true := by kernel_rfl
theorem call27 : callable Try.prog 27 = true := by kernel_rfl
theorem call28 : callable Try.prog 28 = true := by kernel_rfl
theorem call29 : callable Try.prog 29 = true := by kernel_rfl
theorem call30 : callable Try.prog 30 = true := by kernel_rfl
theorem call31 : callable Try.prog 31 = true := by kernel_rfl
theorem call32 : callable Try.prog 32 = true := by kernel_rfl
theorem call33 : callable Try.prog 33 = true := by kernel_rfl
theorem call34 : callable Try.prog 34 = true := by kernel_rfl
theorem call35 : callable Try.prog 35 = true := by kernel_rfl
theorem call36 : callable Try.prog 36 = true := by kernel_rfl
theorem call37 : callable Try.prog 37 = true := by kernel_rfl
theorem call38 : callable Try.prog 38 = true := by kernel_rfl
theorem call39 : callable Try.prog 39 = true := by kernel_rfl
theorem call40 : callable Try.prog 40 = true := by kernel_rfl
theorem call41 : callable Try.prog 41 = true := by kernel_rfl
theorem call42 : callable Try.prog 42 = true := by kernel_rfl
theorem call43 : callable Try.prog 43 = true := by kernel_rfl
theorem call44 : callable Try.prog 44 = true := by kernel_rfl
theorem call45 : callable Try.prog 45 = true := by kernel_rfl
theorem call46 : callable Try.prog 46 = true := by kernel_rfl
theorem call47 : callable Try.prog 47 = true := by kernel_rfl
theorem call48 : callable Try.prog 48 = true := by kernel_rfl
theorem call49 : callable Try.prog 49 = true := by kernel_rfl
theorem call50 : callable Try.prog 50 = true := by kernel_rfl
theorem call51 : callable Try.prog 51 = true := by kernel_rfl
theorem call52 : callable Try.prog 52 = true := by kernel_rfl
theorem call53 : callable Try.prog 53 = true := by kernel_rfl
theorem call54 : callable Try.prog 54 = true := by kernel_rfl
theorem call55 : callable Try.prog 55 = true := by kernel_rfl
theorem call56 : callable Try.prog 56 = true := by kernel_rfl
theorem call57 : callable Try.prog 57 = true := by kernel_rfl
theorem call58 : callable Try.prog 58 = true := by kernel_rfl
theorem call59 : callable Try.prog 59 = true := by kernel_rfl
theorem call60 : callable Try.prog 60 = true := by kernel_rfl
theorem call61 : callable Try.prog 61 = true := by kernel_rfl
theorem call62 : callable Try.prog 62 = true := by kernel_rfl
theorem call63 : callable Try.prog 63 = true := by kernel_rfl
theorem call64 : callable Try.prog 64 = true := by kernel_rfl
theorem call65 : callable Try.prog 65 = true := by kernel_rfl
theorem call66 : callable Try.prog 66 = true := by kernel_rfl
theorem call67 : callable Try.prog 67 = true := by kernel_rfl
theorem call68 : callable Try.prog 68 = true := by kernel_rfl
theorem call69 : callable Try.prog 69 = true := by kernel_rfl
theorem call70 : callable Try.prog 70 = true := by kernel_rfl
theorem call71 : callable Try.prog 71 = true := by kernel_rfl
theorem call72 : callable Try.prog 72 = true := by kernel_rfl
theorem call73 : callable Try.prog 73 = true := by kernel_rfl
theorem call74 : callable Try.prog 74 = true := by kernel_rfl
theorem call75 : callable Try.prog 75 = true := by kernel_rfl
theorem call76 : callable Try.prog 76 = true := by kernel_rfl
theorem call77 : callable Try.prog 77 = true := by kernel_rfl
theorem call78 : callable Try.prog 78 = true := by kernel_rfl
theorem call79 : callable Try.prog 79 = true := by kernel_rfl
theorem call80 : callable Try.prog 80 = true := by kernel_rfl
theorem call81 : callable Try.prog 81 = true := by kernel_rfl
theorem call82 : callable Try.prog 82 = true := by kernel_rfl
theorem call83 : callable Try.prog 83 = true := by kernel_rfl
theorem call84 : callable Try.prog 84 = true := by kernel_rfl
theorem call85 : callable Try.prog 85 = true := by kernel_rfl
theorem call86 : callable Try.prog 86 = true := by kernel_rfl
theorem call87 : callable Try.prog 87 = true := by kernel_rfl
theorem call88 : callable Try.prog 88 = true := by kernel_rfl
theorem call89 : callable Try.prog 89 = true := by kernel_rfl
theorem call90 : callable Try.prog 90 = true := by kernel_rfl
theorem call91 : callable Try.prog 91 = true := by kernel_rfl
theorem call92 : callable Try.prog 92 = true := by kernel_rfl
theorem call93 : callable Try.prog 93 = true := by kernel_rfl
theorem call94 : callable Try.prog 94 = true := by kernel_rfl
theorem call95 : callable Try.prog 95 = true := by kernel_rfl
theorem call96 : callable Try.prog 96 = true := by kernel_rfl
theorem call97 : callable Try.prog 97 = true := by kernel_rfl
theorem call98 : callable Try.prog 98 = true := by kernel_rfl
theorem call99 : callable Try.prog 99 = true := by kernel_rfl
theorem call100 : callable Try.prog 100 = true := by kernel_rfl
theorem call101 : callable Try.prog 101 = true := by kernel_rfl
theorem call102 : callable Try.prog 102 = true := by kernel_rfl
theorem call103 : callable Try.prog 103 = true := by kernel_rfl
theorem call104 : callable Try.prog 104 = true := by kernel_rfl
theorem call105 : callable Try.prog 105 = true := by kernel_rfl
theorem call106 : callable Try.prog 106 = true := by kernel_rfl
theorem call107 : callable Try.prog 107 = true := by kernel_rfl
theorem call108 : callable Try.prog 108 = true := by kernel_rfl
theorem call109 : callable Try.prog 109 = true := by kernel_rfl
theorem call110 : callable Try.prog 110 = true := by kernel_rfl
theorem call111 : callable Try.prog 111 = true := by kernel_rfl
theorem call112 : callable Try.prog 112 = true := by kernel_rfl
theorem call113 : callable Try.prog 113 = true := by kernel_rfl
theorem call114 : callable Try.prog 114 = true := by kernel_rfl
theorem call115 : callable Try.prog 115 = true := by kernel_rfl
theorem call116 : callable Try.prog 116 = true := by kernel_rfl
theorem call117 : callable Try.prog 117 = true := by kernel_rfl
theorem call118 : callable Try.prog 118 = true := by kernel_rfl
theorem call119 : callable Try.prog 119 = true := by kernel_rfl
theorem call120 : callable Try.prog 120 = true := by kernel_rfl
theorem call121 : callable Try.prog 121 = true := by kernel_rfl
theorem call122 : callable Try.prog 122 = true := by kernel_rfl
theorem call123 : callable Try.prog 123 = true := by kernel_rfl
theorem call124 : callable Try.prog 124 = true := by kernel_rfl
theorem call125 : callable Try.prog 125 = true := by kernel_rfl
theorem call126 : callable Try.prog 126 = true := by kernel_rfl
theorem call128 : callable Try.prog 128 = true := by kernel_rfl
theorem call129 : callable Try.prog 129 = true := by kernel_rfl
theorem call130 : callable Try.prog 130 = true := by kernel_rfl
theorem call131 : callable Try.prog 131 = true := by kernel_rfl
theorem call132 : callable Try.prog 132 = true := by kernel_rfl
theorem call133 : callable Try.prog 133 = true := by kernel_rfl
theorem call134 : callable Try.prog 134 = true := by kernel_rfl
theorem call135 : callable Try.prog 135 = true := by kernel_rfl
theorem call136 : callable Try.prog 136 = true := by kernel_rfl
theorem call137 : callable Try.prog 137 = true := by kernel_rfl
theorem call138 : callable Try.prog 138 = true := by kernel_rfl
theorem call139 : callable Try.prog 139 = true := by kernel_rfl
theorem call140 : callable Try.prog 140 = true := by kernel_rfl
theorem call141 : callable Try.prog 141 = true := by kernel_rfl
theorem call142 : callable Try.prog 142 = true := by kernel_rfl
theorem call143 : callable Try.prog 143 = true := by kernel_rfl
theorem call144 : callable Try.prog 144 = true := by kernel_rfl
theorem call145 : callable Try.prog 145 = true := by kernel_rfl
theorem call147 : callable Try.prog 147 = true := by kernel_rfl
theorem call149 : callable Try.prog 149 = true := by kernel_rfl
theorem call150 : callable Try.prog 150 = true := by kernel_rfl
theorem call151 : callable Try.prog 151 = true := by kernel_rfl
theorem call152 : callable Try.prog 152 = true := by kernel_rfl
theorem call153 : callable Try.prog 153 = true := by kernel_rfl
theorem call154 : callable Try.prog 154 = true := by kernel_rfl
theorem call155 : callable Try.prog 155 = true := by kernel_rfl
theorem call156 : callable Try.prog 156 = true := by kernel_rfl
theorem call157 : callable Try.prog 157 = true := by kernel_rfl
theorem call158 : callable Try.prog 158 = true := by kernel_rfl
theorem call159 : callable Try.prog 159 = true := by kernel_rfl
theorem call160 : callable Try.prog 160 = true := by kernel_rfl
theorem call161 : callable Try.prog 161 = true := by kernel_rfl
theorem call162 : callable Try.prog 162 = true := by kernel_rfl
theorem call163 : callable Try.prog 163 = true := by kernel_rfl
theorem call164 : callable Try.prog 164 = true := by kernel_rfl
theorem call165 : callable Try.prog 165 = true := by kernel_rfl
theorem call166 : callable Try.prog 166 = true := by kernel_rfl
theorem call167 : callable Try.prog 167 = true := by kernel_rfl
theorem call168 : callable Try.prog 168 = true := by kernel_rfl
theorem call169 : callable Try.prog 169 = true := by kernel_rfl
theorem call170 : callable Try.prog 170 = true := by kernel_rfl
theorem call171 : callable Try.prog 171 = true := by kernel_rfl
theorem call172 : callable Try.prog 172 = true := by kernel_rfl
theorem call175 : callable Try.prog 175 = true := by kernel_rfl
theorem call176 : callable Try.prog 176 = true := by kernel_rfl
theorem call177 : callable Try.prog 177 = true := by kernel_rfl
theorem call179 : callable Try.prog 179 = true := by kernel_rfl
theorem call180 : callable Try.prog 180 = true := by kernel_rfl
theorem call181 : callable Try.prog 181 = true := by kernel_rfl
theorem call182 : callable Try.prog 182 = true := by kernel_rfl
theorem call183 : callable Try.prog 183 = true := by kernel_rfl
theorem call184 : callable Try.prog 184 = true := by kernel_rfl
theorem call185 : callable Try.prog 185 = true := by kernel_rfl
theorem call186 : callable Try.prog 186 = true := by kernel_rfl
theorem call187 : callable Try.prog 187 = true := by kernel_rfl
theorem call188 : callable Try.prog 188 = true := by kernel_rfl
theorem call189 : callable Try.prog 189 = true := by kernel_rfl
theorem call190 : callable Try.prog 190 = true := by kernel_rfl
theorem call191 : callable Try.prog 191 = true := by kernel_rfl
theorem call192 : callable Try.prog 192 = true := by kernel_rfl
theorem call193 : callable Try.prog 193 = true := by kernel_rfl
theorem call194 : callable Try.prog 194 = true := by kernel_rfl
theorem call195 : callable Try.prog 195 = true := by kernel_rfl
theorem call196 : callable Try.prog 196 = true := by kernel_rfl
theorem call197 : callable Try.prog 197 = true := by kernel_rfl
theorem call198 : callable Try.prog 198 = true := by kernel_rfl
theorem call199 : callable Try.prog 199 = true := by kernel_rfl
theorem call200 : callable Try.prog 200 = true := by kernel_rfl
theorem call201 : callable Try.prog 201 = true := by kernel_rfl
theorem call202 : callable Try.prog 202 = true := by kernel_rfl
theorem call203 : callable Try.prog 203 = true := by kernel_rfl
theorem call204 : callable Try.prog 204 = true := by kernel_rfl
theorem call222 : callable Try.prog 222 = true := by kernel_rfl
theorem call223 : callable Try.prog 223 = true := by kernel_rfl
theorem mixed : Try.prog.follows .mixedOrders = true := by kernel_rfl
attribute [go_sem] aggSize1 zeroCells1 concrete1 und2 aggSize2 zeroCells2 concrete2 und3 aggSize3 zeroCells3 concrete3 isBool4 aggSize4 zeroCells4 concrete4 und5 aggSize5 zeroCells5 concrete5 und6 aggSize6 zeroCells6 concrete6 structOk7 aggSize7 fieldOff7_0 fieldOff7_1 fieldOff7_2 fieldOff7_3 zeroCells7 concrete7 structOk8 aggSize8 fieldOff8_0 fieldOff8_1 fieldOff8_2 fieldOff8_3 zeroCells8 concrete8 isStr9 und9 aggSize9 zeroCells9 concrete9 isStr10 und10 aggSize10 zeroCells10 concrete10 isStr11 und11 aggSize11 zeroCells11 concrete11 und12 aggSize12 zeroCells12 concrete12 structOk13 aggSize13 fieldOff13_0 fieldOff13_1 zeroCells13 concrete13 structOk14 aggSize14 fieldOff14_0 fieldOff14_1 zeroCells14 concrete14 isPtr15 aggSize15 zeroCells15 concrete15 isPtr16 aggSize16 zeroCells16 concrete16 isPtr17 aggSize17 zeroCells17 concrete17 structOk18 aggSize18 fieldOff18_0 zeroCells18 concrete18 structOk19 aggSize19 fieldOff19_0 zeroCells19 concrete19 aggSize20 zeroCells20 und21 aggSize21 zeroCells21 concrete21 aggSize22 zeroCells22 concrete22 aggSize23 zeroCells23 concrete23 aggSize24 zeroCells24 concrete24 aggSize25 zeroCells25 concrete25 aggSize26 zeroCells26 concrete26 aggSize27 zeroCells27 concrete27 isSl28 elemSize28 elemZero28 und28 bytesToStr28 aggSize28 zeroCells28 concrete28 aggSize29 zeroCells29 concrete29 aggSize30 zeroCells30 concrete30 isSl31 elemSize31 elemZero31 und31 bytesToStr31 aggSize31 zeroCells31 concrete31 structOk32 aggSize32 fieldOff32_0 zeroCells32 concrete32 structOk33 aggSize33 fieldOff33_0 zeroCells33 concrete33 aggSize34 zeroCells34 concrete34 aggSize35 zeroCells35 concrete35 aggSize36 zeroCells36 concrete36 aggSize37 zeroCells37 concrete37 aggSize38 zeroCells38 concrete38 isSl39 elemSize39 elemZero39 und39 bytesToStr39 aggSize39 zeroCells39 concrete39 structOk40 aggSize40 fieldOff40_0 fieldOff40_1 fieldOff40_2 fieldOff40_3 fieldOff40_4 zeroCells40 concrete40 structOk41 aggSize41 fieldOff41_0 fieldOff41_1 fieldOff41_2 fieldOff41_3 fieldOff41_4 zeroCells41 concrete41 aggSize43 zeroCells43 concrete43 aggSize44 zeroCells44 concrete44 aggSize45 zeroCells45 concrete45 aggSize47 zeroCells47 concrete47 aggSize48 zeroCells48 concrete48 isSl49 elemSize49 elemZero49 und49 bytesToStr49 aggSize49 zeroCells49 concrete49 aggSize50 zeroCells50 concrete50 structOk51 aggSize51 fieldOff51_0 fieldOff51_1 zeroCells51 concrete51 structOk52 aggSize52 fieldOff52_0 fieldOff52_1 zeroCells52 concrete52 aggSize53 zeroCells53 concrete53 aggSize54 zeroCells54 concrete54 aggSize55 zeroCells55 concrete55 isPtr56 aggSize56 zeroCells56 concrete56 aggSize58 zeroCells58 concrete58 aggSize59 zeroCells59 concrete59 aggSize60 zeroCells60 concrete60 isSl61 elemSize61 elemZero61 und61 bytesToStr61 aggSize61 zeroCells61 concrete61 aggSize62 zeroCells62 concrete62 aggSize63 zeroCells63 concrete63 aggSize64 zeroCells64 concrete64 aggSize65 zeroCells65 concrete65 isSl66 elemSize66 elemZero66 und66 bytesToStr66 aggSize66 zeroCells66 concrete66 isPtr67 aggSize67 zeroCells67 concrete67 aggSize68 zeroCells68 concrete68 isPtr69 aggSize69 zeroCells69 concrete69 isSl70 elemSize70 elemZero70 und70 bytesToStr70 aggSize70 zeroCells70 concrete70 structOk71 aggSize71 fieldOff71_0 zeroCells71 concrete71 structOk72 aggSize72 fieldOff72_0 zeroCells72 concrete72 structOk73 aggSize73 fieldOff73_0 fieldOff73_1 fieldOff73_2 zeroCells73 concrete73 structOk74 aggSize74 fieldOff74_0 fieldOff74_1 fieldOff74_2 zeroCells74 concrete74 und75 aggSize75 zeroCells75 concrete75 aggSize76 zeroCells76 concrete76 aggSize77 zeroCells77 concrete77 aggSize78 zeroCells78 concrete78 aggSize79 zeroCells79 concrete79 aggSize80 zeroCells80 concrete80 aggSize81 zeroCells81 concrete81 aggSize82 zeroCells82 concrete82 aggSize83 zeroCells83 concrete83 aggSize84 zeroCells84 concrete84 aggSize85 zeroCells85 concrete85 isPtr86 aggSize86 zeroCells86 concrete86 isPtr87 aggSize87 zeroCells87 concrete87 structOk88 aggSize88 fieldOff88_0 fieldOff88_1 zeroCells88 concrete88 structOk89 aggSize89 fieldOff89_0 fieldOff89_1 zeroCells89 concrete89 structOk90 aggSize90 fieldOff90_0 zeroCells90 concrete90 structOk91 aggSize91 fieldOff91_0 zeroCells91 concrete91 isPtr92 aggSize92 zeroCells92 concrete92 aggSize93 zeroCells93 aggSize94 zeroCells94 structOk95 aggSize95 fieldOff95_0 fieldOff95_1 zeroCells95 concrete95 structOk96 aggSize96 fieldOff96_0 fieldOff96_1 zeroCells96 concrete96 aggSize97 zeroCells97 concrete97 isPtr98 aggSize98 zeroCells98 concrete98 structOk99 aggSize99 fieldOff99_0 zeroCells99 concrete99 structOk100 aggSize100 fieldOff100_0 zeroCells100 concrete100 aggSize101 zeroCells101 concrete101 aggSize102 zeroCells102 concrete102 aggSize103 zeroCells103 concrete103 aggSize104 zeroCells104 concrete104 aggSize105 zeroCells105 concrete105 aggSize106 zeroCells106 concrete106 aggSize107 zeroCells107 concrete107 aggSize108 zeroCells108 concrete108 aggSize109 zeroCells109 concrete109 aggSize110 zeroCells110 concrete110 aggSize112 zeroCells112 concrete112 aggSize113 zeroCells113 concrete113 aggSize115 zeroCells115 concrete115 aggSize116 zeroCells116 concrete116 structOk117 aggSize117 fieldOff117_0 fieldOff117_1 fieldOff117_2 fieldOff117_3 fieldOff117_4 zeroCells117 concrete117 structOk118 aggSize118 fieldOff118_0 fieldOff118_1 fieldOff118_2 fieldOff118_3 fieldOff118_4 zeroCells118 concrete118 aggSize119 zeroCells119 concrete119 aggSize120 zeroCells120 concrete120 aggSize121 zeroCells121 concrete121 und122 aggSize122 zeroCells122 concrete122 aggSize123 zeroCells123 concrete123 structOk124 aggSize124 fieldOff124_0 zeroCells124 concrete124 structOk125 aggSize125 fieldOff125_0 zeroCells125 concrete125 aggSize126 zeroCells126 concrete126 isPtr127 aggSize127 zeroCells127 concrete127 aggSize128 zeroCells128 concrete128 structOk129 aggSize129 fieldOff129_0 zeroCells129 concrete129 structOk130 aggSize130 fieldOff130_0 zeroCells130 concrete130 structOk131 aggSize131 fieldOff131_0 fieldOff131_1 zeroCells131 concrete131 structOk132 aggSize132 fieldOff132_0 fieldOff132_1 zeroCells132 concrete132 aggSize133 zeroCells133 concrete133 aggSize134 zeroCells134 concrete134 aggSize135 zeroCells135 concrete135 aggSize136 zeroCells136 concrete136 isPtr137 aggSize137 zeroCells137 concrete137 aggSize138 zeroCells138 concrete138 aggSize139 zeroCells139 concrete139 aggSize140 zeroCells140 aggSize141 zeroCells141 aggSize143 zeroCells143 concrete143 aggSize144 zeroCells144 concrete144 aggSize145 zeroCells145 concrete145 aggSize146 zeroCells146 concrete146 aggSize147 zeroCells147 concrete147 aggSize148 zeroCells148 concrete148 aggSize149 zeroCells149 concrete149 aggSize150 zeroCells150 concrete150 aggSize151 zeroCells151 concrete151 aggSize152 zeroCells152 concrete152 aggSize153 zeroCells153 concrete153 aggSize154 zeroCells154 concrete154 aggSize158 zeroCells158 concrete158 aggSize159 zeroCells159 concrete159 aggSize160 zeroCells160 concrete160 aggSize161 zeroCells161 concrete161 und162 aggSize162 zeroCells162 concrete162 aggSize163 zeroCells163 concrete163 aggSize164 zeroCells164 concrete164 aggSize165 zeroCells165 concrete165 aggSize166 zeroCells166 concrete166 isPtr167 aggSize167 zeroCells167 concrete167 aggSize168 zeroCells168 concrete168 aggSize169 zeroCells169 concrete169 und170 aggSize170 zeroCells170 concrete170 aggSize172 zeroCells172 concrete172 aggSize173 zeroCells173 concrete173 aggSize174 zeroCells174 concrete174 aggSize176 zeroCells176 concrete176 aggSize177 zeroCells177 concrete177 und178 aggSize178 zeroCells178 concrete178 aggSize179 zeroCells179 concrete179 und180 aggSize180 zeroCells180 concrete180 aggSize181 zeroCells181 concrete181 aggSize183 zeroCells183 concrete183 aggSize184 zeroCells184 concrete184 und185 aggSize185 zeroCells185 concrete185 aggSize186 zeroCells186 concrete186 aggSize187 zeroCells187 concrete187 aggSize188 zeroCells188 concrete188 isPtr189 aggSize189 zeroCells189 concrete189 aggSize190 zeroCells190 concrete190 isPtr191 aggSize191 zeroCells191 concrete191 aggSize193 zeroCells193 concrete193 structOk194 aggSize194 fieldOff194_0 fieldOff194_1 fieldOff194_2 fieldOff194_3 zeroCells194 concrete194 structOk195 aggSize195 fieldOff195_0 fieldOff195_1 fieldOff195_2 fieldOff195_3 zeroCells195 concrete195 und199 aggSize199 zeroCells199 concrete199 und200 aggSize200 zeroCells200 concrete200 aggSize201 zeroCells201 concrete201 und202 aggSize202 zeroCells202 concrete202 und203 aggSize203 zeroCells203 concrete203 structOk204 aggSize204 fieldOff204_0 fieldOff204_1 fieldOff204_2 fieldOff204_3 fieldOff204_4 fieldOff204_5 fieldOff204_6 fieldOff204_7 fieldOff204_8 fieldOff204_9 fieldOff204_10 zeroCells204 concrete204 structOk205 aggSize205 fieldOff205_0 fieldOff205_1 fieldOff205_2 fieldOff205_3 fieldOff205_4 fieldOff205_5 fieldOff205_6 fieldOff205_7 fieldOff205_8 fieldOff205_9 fieldOff205_10 zeroCells205 concrete205 isSl206 elemSize206 elemZero206 und206 bytesToStr206 aggSize206 zeroCells206 concrete206 isSl207 elemSize207 elemZero207 und207 bytesToStr207 aggSize207 zeroCells207 concrete207 isSl208 elemSize208 elemZero208 und208 bytesToStr208 aggSize208 zeroCells208 concrete208 isSl209 elemSize209 elemZero209 und209 bytesToStr209 aggSize209 zeroCells209 concrete209 structOk210 aggSize210 fieldOff210_0 fieldOff210_1 fieldOff210_2 fieldOff210_3 fieldOff210_4 fieldOff210_5 fieldOff210_6 fieldOff210_7 fieldOff210_8 fieldOff210_9 zeroCells210 concrete210 structOk211 aggSize211 fieldOff211_0 fieldOff211_1 fieldOff211_2 fieldOff211_3 fieldOff211_4 fieldOff211_5 fieldOff211_6 fieldOff211_7 fieldOff211_8 fieldOff211_9 zeroCells211 concrete211 structOk212 aggSize212 fieldOff212_0 fieldOff212_1 fieldOff212_2 fieldOff212_3 zeroCells212 concrete212 structOk213 aggSize213 fieldOff213_0 fieldOff213_1 fieldOff213_2 fieldOff213_3 zeroCells213 concrete213 structOk214 aggSize214 fieldOff214_0 fieldOff214_1 zeroCells214 concrete214 structOk215 aggSize215 fieldOff215_0 fieldOff215_1 zeroCells215 concrete215
end Go.Proofs.Ytcbonfgkfiapaaa.Pv
