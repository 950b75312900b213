/- The types of this program, as the walks by computation read them. -/
import Derived.Test.YtlbidfeeckapgaaGreatZSh
import Derived.Test.YtlbidfeeckapgaaGreatZSi
import Derived.Test.YtlbidfeeckapgaaGreatZB5
import Derived.Shelf.Abstract
set_option maxRecDepth 100000
namespace Go.Proofs.YtlbidfeeckapgaaGreat
open Go.RowKit
def tab : Tab := [
  (3, ⟨1, false, [.ik .i64 0], [], none, none, some .i64, false⟩),
  (27, ⟨6, true, [.ik .i64 0, .ik .i64 0, .nsl, .nsl, .nsl, .nsl], [(0, 1), (1, 1), (2, 1), (3, 1), (4, 1), (5, 1)], none, none, none, false⟩),
  (32, ⟨5, true, [.ik .i64 0, .ik .i64 0, .ik .i64 0, .ik .i64 0, .nsl], [(0, 1), (1, 1), (2, 1), (3, 1), (4, 1)], none, none, none, false⟩),
  (38, ⟨7, true, [.ik .i64 0, .ik .i64 0, .ik .i64 0, .ik .i64 0, .ik .i64 0, .ik .i64 0, .ik .i64 0], [(0, 1), (1, 1), (2, 1), (3, 1), (4, 1), (5, 1), (6, 1)], none, some .sel, none, false⟩),
  (30, ⟨1, false, [.nsl], [], some (38, 7, 56), none, none, false⟩),
  (67, ⟨7, true, [.ik .i64 0, .ik .i64 0, .nsl, .nsl, .nsl, .nsl, .ik .i64 0], [(0, 1), (1, 2), (3, 1), (4, 1), (5, 1), (6, 1)], none, none, none, false⟩),
  (25, ⟨1, false, [.nsl], [], some (48, 4, 32), none, none, false⟩),
  (23, ⟨1, false, [.nsl], [], some (52, 2, 16), none, none, false⟩),
  (40, ⟨10, true, [.ik .i64 0, .ik .i64 0, .ik .i64 0, .ik .i64 0, .ik .i64 0, .ik .i64 0, .ik .i64 0, .ik .i64 0, .ik .i64 0, .ik .i64 0], [(0, 1), (1, 1), (2, 1), (3, 7)], none, some .cred, none, false⟩),
  (24, ⟨1, false, [.nsl], [], some (40, 10, 80), none, none, false⟩),
  (48, ⟨4, true, [.ik .i64 0, .ik .i64 0, .ik .i64 0, .ik .i64 0], [(0, 1), (1, 1), (2, 1), (3, 1)], none, some .call, none, false⟩),
  (117, ⟨8, true, [.ik .i64 0, .ik .i64 0, .ik .i64 0, .ik .i64 0, .ik .i64 0, .ik .i64 0, .ik .i64 0, .nsl], [(0, 1), (1, 1), (2, 1), (3, 5)], none, none, none, false⟩),
  (65, ⟨1, false, [.nsl], [], some (32, 5, 56), none, none, false⟩),
  (62, ⟨2, true, [.ik .i64 0, .nsl], [(0, 1), (1, 1)], none, none, none, false⟩),
  (133, ⟨4, true, [.ik .i64 0, .ik .i64 0, .nsl, .nsl], [(0, 1), (1, 1), (2, 1), (3, 1)], none, none, none, false⟩),
  (52, ⟨2, true, [.ik .i64 0, .ik .i64 0], [(0, 1), (1, 1)], none, some .want, none, false⟩),
  (63, ⟨1, false, [.nsl], [], some (27, 6, 112), none, none, false⟩),
  (22, ⟨1, false, [.nsl], [], some (5, 1, 1), none, none, false⟩),
  (64, ⟨1, false, [.nsl], [], some (133, 4, 64), none, none, false⟩),
  (91, ⟨1, false, [.nsl], [], some (3, 1, 8), none, none, false⟩),
  (4, ⟨1, false, [.bl (.lit false)], [], none, none, none, true⟩),
  (86, ⟨2, true, [.nsl, .ik .i64 0], [(0, 1), (1, 1)], none, none, none, false⟩),
  (87, ⟨1, false, [.nsl], [], some (117, 8, 80), none, none, false⟩),
  (123, ⟨1, false, [.nsl], [], some (4, 1, 1), none, none, false⟩),
  (5, ⟨1, false, [.ik .u8 0], [], none, none, some .u8, false⟩)]
theorem tabOK : TabOK Tryz.prog tab := ⟨⟨by kernel_rfl, by kernel_rfl, rfl, fun _ => rfl, by kernel_rfl, .inl rfl, trivial, trivial, (show Tryz.prog.underlying 3 = some (.int .i64) from by kernel_rfl), trivial⟩,
 ⟨by kernel_rfl, by kernel_rfl, rfl, fun _ => rfl, by kernel_rfl, .inr (by kernel_rfl), trivial, trivial, trivial, trivial⟩,
 ⟨by kernel_rfl, by kernel_rfl, rfl, fun _ => rfl, by kernel_rfl, .inr (by kernel_rfl), trivial, trivial, trivial, trivial⟩,
 ⟨by kernel_rfl, by kernel_rfl, rfl, fun _ => rfl, by kernel_rfl, .inr (by kernel_rfl), trivial, ⟨by kernel_rfl, fun w x y => eqSl 9998 w x y⟩, trivial, trivial⟩,
 ⟨by kernel_rfl, by kernel_rfl, rfl, fun _ => rfl, by kernel_rfl, .inl rfl, ⟨.agg #[.int .i64 0, .int .i64 0, .int .i64 0, .int .i64 0, .int .i64 0, .int .i64 0, .int .i64 0], ⟨by kernel_rfl, by kernel_rfl, rfl, by decide⟩⟩, trivial, trivial, trivial⟩,
 ⟨by kernel_rfl, by kernel_rfl, rfl, fun _ => rfl, by kernel_rfl, .inr (by kernel_rfl), trivial, trivial, trivial, trivial⟩,
 ⟨by kernel_rfl, by kernel_rfl, rfl, fun _ => rfl, by kernel_rfl, .inl rfl, ⟨.agg #[.int .i64 0, .int .i64 0, .int .i64 0, .int .i64 0], ⟨by kernel_rfl, by kernel_rfl, rfl, by decide⟩⟩, trivial, trivial, trivial⟩,
 ⟨by kernel_rfl, by kernel_rfl, rfl, fun _ => rfl, by kernel_rfl, .inl rfl, ⟨.agg #[.int .i64 0, .int .i64 0], ⟨by kernel_rfl, by kernel_rfl, rfl, by decide⟩⟩, trivial, trivial, trivial⟩,
 ⟨by kernel_rfl, by kernel_rfl, rfl, fun _ => rfl, by kernel_rfl, .inr (by kernel_rfl), trivial, ⟨by kernel_rfl, fun w x y => eqCr 9997 w x y⟩, trivial, trivial⟩,
 ⟨by kernel_rfl, by kernel_rfl, rfl, fun _ => rfl, by kernel_rfl, .inl rfl, ⟨.agg #[.int .i64 0, .int .i64 0, .int .i64 0, .int .i64 0, .int .i64 0, .int .i64 0, .int .i64 0, .int .i64 0, .int .i64 0, .int .i64 0], ⟨by kernel_rfl, by kernel_rfl, rfl, by decide⟩⟩, trivial, trivial, trivial⟩,
 ⟨by kernel_rfl, by kernel_rfl, rfl, fun _ => rfl, by kernel_rfl, .inr (by kernel_rfl), trivial, ⟨by kernel_rfl, fun w x y => eqCl 9998 w x y⟩, trivial, trivial⟩,
 ⟨by kernel_rfl, by kernel_rfl, rfl, fun _ => rfl, by kernel_rfl, .inr (by kernel_rfl), trivial, trivial, trivial, trivial⟩,
 ⟨by kernel_rfl, by kernel_rfl, rfl, fun _ => rfl, by kernel_rfl, .inl rfl, ⟨.agg #[.int .i64 0, .int .i64 0, .int .i64 0, .int .i64 0, .slice none 0 0], ⟨by kernel_rfl, by kernel_rfl, rfl, by decide⟩⟩, trivial, trivial, trivial⟩,
 ⟨by kernel_rfl, by kernel_rfl, rfl, fun _ => rfl, by kernel_rfl, .inr (by kernel_rfl), trivial, trivial, trivial, trivial⟩,
 ⟨by kernel_rfl, by kernel_rfl, rfl, fun _ => rfl, by kernel_rfl, .inr (by kernel_rfl), trivial, trivial, trivial, trivial⟩,
 ⟨by kernel_rfl, by kernel_rfl, rfl, fun _ => rfl, by kernel_rfl, .inr (by kernel_rfl), trivial, ⟨by kernel_rfl, fun w x y => eqWn 9998 w x y⟩, trivial, trivial⟩,
 ⟨by kernel_rfl, by kernel_rfl, rfl, fun _ => rfl, by kernel_rfl, .inl rfl, ⟨.agg #[.int .i64 0, .int .i64 0, .slice none 0 0, .slice none 0 0, .slice none 0 0, .slice none 0 0], ⟨by kernel_rfl, by kernel_rfl, rfl, by decide⟩⟩, trivial, trivial, trivial⟩,
 ⟨by kernel_rfl, by kernel_rfl, rfl, fun _ => rfl, by kernel_rfl, .inl rfl, ⟨.int .u8 0, ⟨by kernel_rfl, by kernel_rfl, rfl, by decide⟩⟩, trivial, trivial, trivial⟩,
 ⟨by kernel_rfl, by kernel_rfl, rfl, fun _ => rfl, by kernel_rfl, .inl rfl, ⟨.agg #[.int .i64 0, .int .i64 0, .slice none 0 0, .slice none 0 0], ⟨by kernel_rfl, by kernel_rfl, rfl, by decide⟩⟩, trivial, trivial, trivial⟩,
 ⟨by kernel_rfl, by kernel_rfl, rfl, fun _ => rfl, by kernel_rfl, .inl rfl, ⟨.int .i64 0, ⟨by kernel_rfl, by kernel_rfl, rfl, by decide⟩⟩, trivial, trivial, trivial⟩,
 ⟨by kernel_rfl, by kernel_rfl, rfl, fun _ => rfl, by kernel_rfl, .inl rfl, trivial, trivial, trivial, (show Tryz.prog.underlying 4 = some .bool from by kernel_rfl)⟩,
 ⟨by kernel_rfl, by kernel_rfl, rfl, fun _ => rfl, by kernel_rfl, .inr (by kernel_rfl), trivial, trivial, trivial, trivial⟩,
 ⟨by kernel_rfl, by kernel_rfl, rfl, fun _ => rfl, by kernel_rfl, .inl rfl, ⟨.agg #[.int .i64 0, .int .i64 0, .int .i64 0, .int .i64 0, .int .i64 0, .int .i64 0, .int .i64 0, .slice none 0 0], ⟨by kernel_rfl, by kernel_rfl, rfl, by decide⟩⟩, trivial, trivial, trivial⟩,
 ⟨by kernel_rfl, by kernel_rfl, rfl, fun _ => rfl, by kernel_rfl, .inl rfl, ⟨.bool false, ⟨by kernel_rfl, by kernel_rfl, rfl, by decide⟩⟩, trivial, trivial, trivial⟩,
 ⟨by kernel_rfl, by kernel_rfl, rfl, fun _ => rfl, by kernel_rfl, .inl rfl, trivial, trivial, (show Tryz.prog.underlying 5 = some (.int .u8) from by kernel_rfl), trivial⟩, trivial⟩
theorem mixed : Tryz.prog.follows .mixedOrders = true := by kernel_rfl
theorem en3 : En Tryz.prog 3 := ⟨enters_of Tryz.func3 (by kernel_rfl) rfl⟩
theorem en4 : En Tryz.prog 4 := ⟨enters_of Tryz.func4 (by kernel_rfl) rfl⟩
theorem en5 : En Tryz.prog 5 := ⟨enters_of Tryz.func5 (by kernel_rfl) rfl⟩
theorem en6 : En Tryz.prog 6 := ⟨enters_of Tryz.func6 (by kernel_rfl) rfl⟩
theorem en7 : En Tryz.prog 7 := ⟨enters_of Tryz.func7 (by kernel_rfl) rfl⟩
theorem en8 : En Tryz.prog 8 := ⟨enters_of Tryz.func8 (by kernel_rfl) rfl⟩
theorem en9 : En Tryz.prog 9 := ⟨enters_of Tryz.func9 (by kernel_rfl) rfl⟩
theorem en10 : En Tryz.prog 10 := ⟨enters_of Tryz.func10 (by kernel_rfl) rfl⟩
theorem en11 : En Tryz.prog 11 := ⟨enters_of Tryz.func11 (by kernel_rfl) rfl⟩
theorem en12 : En Tryz.prog 12 := ⟨enters_of Tryz.func12 (by kernel_rfl) rfl⟩
theorem en13 : En Tryz.prog 13 := ⟨enters_of Tryz.func13 (by kernel_rfl) rfl⟩
theorem en14 : En Tryz.prog 14 := ⟨enters_of Tryz.func14 (by kernel_rfl) rfl⟩
theorem en15 : En Tryz.prog 15 := ⟨enters_of Tryz.func15 (by kernel_rfl) rfl⟩
theorem en16 : En Tryz.prog 16 := ⟨enters_of Tryz.func16 (by kernel_rfl) rfl⟩
theorem en17 : En Tryz.prog 17 := ⟨enters_of Tryz.func17 (by kernel_rfl) rfl⟩
theorem en18 : En Tryz.prog 18 := ⟨enters_of Tryz.func18 (by kernel_rfl) rfl⟩
theorem en19 : En Tryz.prog 19 := ⟨enters_of Tryz.func19 (by kernel_rfl) rfl⟩
theorem en20 : En Tryz.prog 20 := ⟨enters_of Tryz.func20 (by kernel_rfl) rfl⟩
theorem en21 : En Tryz.prog 21 := ⟨enters_of Tryz.func21 (by kernel_rfl) rfl⟩
theorem en22 : En Tryz.prog 22 := ⟨enters_of Tryz.func22 (by kernel_rfl) rfl⟩
theorem en23 : En Tryz.prog 23 := ⟨enters_of Tryz.func23 (by kernel_rfl) rfl⟩
theorem en24 : En Tryz.prog 24 := ⟨enters_of Tryz.func24 (by kernel_rfl) rfl⟩
theorem en25 : En Tryz.prog 25 := ⟨enters_of Tryz.func25 (by kernel_rfl) rfl⟩
theorem en26 : En Tryz.prog 26 := ⟨enters_of Tryz.func26 (by kernel_rfl) rfl⟩
theorem en27 : En Tryz.prog 27 := ⟨enters_of Tryz.func27 (by kernel_rfl) rfl⟩
theorem en28 : En Tryz.prog 28 := ⟨enters_of Tryz.func28 (by kernel_rfl) rfl⟩
theorem en29 : En Tryz.prog 29 := ⟨enters_of Tryz.func29 (by kernel_rfl) rfl⟩
theorem en30 : En Tryz.prog 30 := ⟨enters_of Tryz.func30 (by kernel_rfl) rfl⟩
theorem en31 : En Tryz.prog 31 := ⟨enters_of Tryz.func31 (by kernel_rfl) rfl⟩
theorem en32 : En Tryz.prog 32 := ⟨enters_of Tryz.func32 (by kernel_rfl) rfl⟩
theorem en33 : En Tryz.prog 33 := ⟨enters_of Tryz.func33 (by kernel_rfl) rfl⟩
theorem en34 : En Tryz.prog 34 := ⟨enters_of Tryz.func34 (by kernel_rfl) rfl⟩
theorem en35 : En Tryz.prog 35 := ⟨enters_of Tryz.func35 (by kernel_rfl) rfl⟩
theorem en36 : En Tryz.prog 36 := ⟨enters_of Tryz.func36 (by kernel_rfl) rfl⟩
theorem en37 : En Tryz.prog 37 := ⟨enters_of Tryz.func37 (by kernel_rfl) rfl⟩
theorem en38 : En Tryz.prog 38 := ⟨enters_of Tryz.func38 (by kernel_rfl) rfl⟩
theorem en39 : En Tryz.prog 39 := ⟨enters_of Tryz.func39 (by kernel_rfl) rfl⟩
theorem en40 : En Tryz.prog 40 := ⟨enters_of Tryz.func40 (by kernel_rfl) rfl⟩
theorem en41 : En Tryz.prog 41 := ⟨enters_of Tryz.func41 (by kernel_rfl) rfl⟩
theorem en42 : En Tryz.prog 42 := ⟨enters_of Tryz.func42 (by kernel_rfl) rfl⟩
theorem en43 : En Tryz.prog 43 := ⟨enters_of Tryz.func43 (by kernel_rfl) rfl⟩
theorem en44 : En Tryz.prog 44 := ⟨enters_of Tryz.func44 (by kernel_rfl) rfl⟩
theorem en45 : En Tryz.prog 45 := ⟨enters_of Tryz.func45 (by kernel_rfl) rfl⟩
theorem en46 : En Tryz.prog 46 := ⟨enters_of Tryz.func46 (by kernel_rfl) rfl⟩
theorem en47 : En Tryz.prog 47 := ⟨enters_of Tryz.func47 (by kernel_rfl) rfl⟩
theorem en48 : En Tryz.prog 48 := ⟨enters_of Tryz.func48 (by kernel_rfl) rfl⟩
theorem en49 : En Tryz.prog 49 := ⟨enters_of Tryz.func49 (by kernel_rfl) rfl⟩
theorem en50 : En Tryz.prog 50 := ⟨enters_of Tryz.func50 (by kernel_rfl) rfl⟩
theorem en51 : En Tryz.prog 51 := ⟨enters_of Tryz.func51 (by kernel_rfl) rfl⟩
theorem en52 : En Tryz.prog 52 := ⟨enters_of Tryz.func52 (by kernel_rfl) rfl⟩
theorem en53 : En Tryz.prog 53 := ⟨enters_of Tryz.func53 (by kernel_rfl) rfl⟩
theorem en54 : En Tryz.prog 54 := ⟨enters_of Tryz.func54 (by kernel_rfl) rfl⟩
theorem en55 : En Tryz.prog 55 := ⟨enters_of Tryz.func55 (by kernel_rfl) rfl⟩
theorem en56 : En Tryz.prog 56 := ⟨enters_of Tryz.func56 (by kernel_rfl) rfl⟩
theorem en57 : En Tryz.prog 57 := ⟨enters_of Tryz.func57 (by kernel_rfl) rfl⟩
theorem en58 : En Tryz.prog 58 := ⟨enters_of Tryz.func58 (by kernel_rfl) rfl⟩
theorem en59 : En Tryz.prog 59 := ⟨enters_of Tryz.func59 (by kernel_rfl) rfl⟩
theorem en60 : En Tryz.prog 60 := ⟨enters_of Tryz.func60 (by kernel_rfl) rfl⟩
theorem en61 : En Tryz.prog 61 := ⟨enters_of Tryz.func61 (by kernel_rfl) rfl⟩
theorem en62 : En Tryz.prog 62 := ⟨enters_of Tryz.func62 (by kernel_rfl) rfl⟩
theorem en63 : En Tryz.prog 63 := ⟨enters_of Tryz.func63 (by kernel_rfl) rfl⟩
theorem en64 : En Tryz.prog 64 := ⟨enters_of Tryz.func64 (by kernel_rfl) rfl⟩
theorem en65 : En Tryz.prog 65 := ⟨enters_of Tryz.func65 (by kernel_rfl) rfl⟩
theorem en66 : En Tryz.prog 66 := ⟨enters_of Tryz.func66 (by kernel_rfl) rfl⟩
theorem en67 : En Tryz.prog 67 := ⟨enters_of Tryz.func67 (by kernel_rfl) rfl⟩
theorem en68 : En Tryz.prog 68 := ⟨enters_of Tryz.func68 (by kernel_rfl) rfl⟩
theorem en69 : En Tryz.prog 69 := ⟨enters_of Tryz.func69 (by kernel_rfl) rfl⟩
theorem en70 : En Tryz.prog 70 := ⟨enters_of Tryz.func70 (by kernel_rfl) rfl⟩
theorem en71 : En Tryz.prog 71 := ⟨enters_of Tryz.func71 (by kernel_rfl) rfl⟩
theorem en72 : En Tryz.prog 72 := ⟨enters_of Tryz.func72 (by kernel_rfl) rfl⟩
theorem en73 : En Tryz.prog 73 := ⟨enters_of Tryz.func73 (by kernel_rfl) rfl⟩
theorem en74 : En Tryz.prog 74 := ⟨enters_of Tryz.func74 (by kernel_rfl) rfl⟩
theorem en75 : En Tryz.prog 75 := ⟨enters_of Tryz.func75 (by kernel_rfl) rfl⟩
theorem en76 : En Tryz.prog 76 := ⟨enters_of Tryz.func76 (by kernel_rfl) rfl⟩
theorem en77 : En Tryz.prog 77 := ⟨enters_of Tryz.func77 (by kernel_rfl) rfl⟩
theorem en78 : En Tryz.prog 78 := ⟨enters_of Tryz.func78 (by kernel_rfl) rfl⟩
theorem en79 : En Tryz.prog 79 := ⟨enters_of Tryz.func79 (by kernel_rfl) rfl⟩
theorem en80 : En Tryz.prog 80 := ⟨enters_of Tryz.func80 (by kernel_rfl) rfl⟩
theorem en81 : En Tryz.prog 81 := ⟨enters_of Tryz.func81 (by kernel_rfl) rfl⟩
theorem en82 : En Tryz.prog 82 := ⟨enters_of Tryz.func82 (by kernel_rfl) rfl⟩
theorem en83 : En Tryz.prog 83 := ⟨enters_of Tryz.func83 (by kernel_rfl) rfl⟩
theorem en84 : En Tryz.prog 84 := ⟨enters_of Tryz.func84 (by kernel_rfl) rfl⟩
theorem en85 : En Tryz.prog 85 := ⟨enters_of Tryz.func85 (by kernel_rfl) rfl⟩
theorem en86 : En Tryz.prog 86 := ⟨enters_of Tryz.func86 (by kernel_rfl) rfl⟩
theorem en87 : En Tryz.prog 87 := ⟨enters_of Tryz.func87 (by kernel_rfl) rfl⟩
theorem en88 : En Tryz.prog 88 := ⟨enters_of Tryz.func88 (by kernel_rfl) rfl⟩
theorem en89 : En Tryz.prog 89 := ⟨enters_of Tryz.func89 (by kernel_rfl) rfl⟩
theorem en90 : En Tryz.prog 90 := ⟨enters_of Tryz.func90 (by kernel_rfl) rfl⟩
theorem en91 : En Tryz.prog 91 := ⟨enters_of Tryz.func91 (by kernel_rfl) rfl⟩
theorem en92 : En Tryz.prog 92 := ⟨enters_of Tryz.func92 (by kernel_rfl) rfl⟩
theorem en93 : En Tryz.prog 93 := ⟨enters_of Tryz.func93 (by kernel_rfl) rfl⟩
theorem en94 : En Tryz.prog 94 := ⟨enters_of Tryz.func94 (by kernel_rfl) rfl⟩
theorem en95 : En Tryz.prog 95 := ⟨enters_of Tryz.func95 (by kernel_rfl) rfl⟩
theorem en96 : En Tryz.prog 96 := ⟨enters_of Tryz.func96 (by kernel_rfl) rfl⟩
theorem en97 : En Tryz.prog 97 := ⟨enters_of Tryz.func97 (by kernel_rfl) rfl⟩
theorem en98 : En Tryz.prog 98 := ⟨enters_of Tryz.func98 (by kernel_rfl) rfl⟩
theorem en99 : En Tryz.prog 99 := ⟨enters_of Tryz.func99 (by kernel_rfl) rfl⟩
theorem en100 : En Tryz.prog 100 := ⟨enters_of Tryz.func100 (by kernel_rfl) rfl⟩
theorem en101 : En Tryz.prog 101 := ⟨enters_of Tryz.func101 (by kernel_rfl) rfl⟩
theorem en102 : En Tryz.prog 102 := ⟨enters_of Tryz.func102 (by kernel_rfl) rfl⟩
theorem en103 : En Tryz.prog 103 := ⟨enters_of Tryz.func103 (by kernel_rfl) rfl⟩
theorem en104 : En Tryz.prog 104 := ⟨enters_of Tryz.func104 (by kernel_rfl) rfl⟩
theorem en105 : En Tryz.prog 105 := ⟨enters_of Tryz.func105 (by kernel_rfl) rfl⟩
theorem en106 : En Tryz.prog 106 := ⟨enters_of Tryz.func106 (by kernel_rfl) rfl⟩
theorem en107 : En Tryz.prog 107 := ⟨enters_of Tryz.func107 (by kernel_rfl) rfl⟩
theorem en108 : En Tryz.prog 108 := ⟨enters_of Tryz.func108 (by kernel_rfl) rfl⟩
theorem en109 : En Tryz.prog 109 := ⟨enters_of Tryz.func109 (by kernel_rfl) rfl⟩
theorem en110 : En Tryz.prog 110 := ⟨enters_of Tryz.func110 (by kernel_rfl) rfl⟩
theorem en111 : En Tryz.prog 111 := ⟨enters_of Tryz.func111 (by kernel_rfl) rfl⟩
theorem en112 : En Tryz.prog 112 := ⟨enters_of Tryz.func112 (by kernel_rfl) rfl⟩
theorem en113 : En Tryz.prog 113 := ⟨enters_of Tryz.func113 (by kernel_rfl) rfl⟩
theorem en114 : En Tryz.prog 114 := ⟨enters_of Tryz.func114 (by kernel_rfl) rfl⟩
theorem en115 : En Tryz.prog 115 := ⟨enters_of Tryz.func115 (by kernel_rfl) rfl⟩
theorem en116 : En Tryz.prog 116 := ⟨enters_of Tryz.func116 (by kernel_rfl) rfl⟩
theorem en117 : En Tryz.prog 117 := ⟨enters_of Tryz.func117 (by kernel_rfl) rfl⟩
theorem en118 : En Tryz.prog 118 := ⟨enters_of Tryz.func118 (by kernel_rfl) rfl⟩
theorem en119 : En Tryz.prog 119 := ⟨enters_of Tryz.func119 (by kernel_rfl) rfl⟩
theorem en120 : En Tryz.prog 120 := ⟨enters_of Tryz.func120 (by kernel_rfl) rfl⟩
theorem en121 : En Tryz.prog 121 := ⟨enters_of Tryz.func121 (by kernel_rfl) rfl⟩
theorem en122 : En Tryz.prog 122 := ⟨enters_of Tryz.func122 (by kernel_rfl) rfl⟩
theorem en123 : En Tryz.prog 123 := ⟨enters_of Tryz.func123 (by kernel_rfl) rfl⟩
theorem en124 : En Tryz.prog 124 := ⟨enters_of Tryz.func124 (by kernel_rfl) rfl⟩
theorem en125 : En Tryz.prog 125 := ⟨enters_of Tryz.func125 (by kernel_rfl) rfl⟩
theorem en126 : En Tryz.prog 126 := ⟨enters_of Tryz.func126 (by kernel_rfl) rfl⟩
theorem en127 : En Tryz.prog 127 := ⟨enters_of Tryz.func127 (by kernel_rfl) rfl⟩
theorem en128 : En Tryz.prog 128 := ⟨enters_of Tryz.func128 (by kernel_rfl) rfl⟩
theorem en129 : En Tryz.prog 129 := ⟨enters_of Tryz.func129 (by kernel_rfl) rfl⟩
theorem en130 : En Tryz.prog 130 := ⟨enters_of Tryz.func130 (by kernel_rfl) rfl⟩
theorem en131 : En Tryz.prog 131 := ⟨enters_of Tryz.func131 (by kernel_rfl) rfl⟩
theorem en132 : En Tryz.prog 132 := ⟨enters_of Tryz.func132 (by kernel_rfl) rfl⟩
theorem en133 : En Tryz.prog 133 := ⟨enters_of Tryz.func133 (by kernel_rfl) rfl⟩
theorem en134 : En Tryz.prog 134 := ⟨enters_of Tryz.func134 (by kernel_rfl) rfl⟩
theorem en135 : En Tryz.prog 135 := ⟨enters_of Tryz.func135 (by kernel_rfl) rfl⟩
theorem en136 : En Tryz.prog 136 := ⟨enters_of Tryz.func136 (by kernel_rfl) rfl⟩
theorem en137 : En Tryz.prog 137 := ⟨enters_of Tryz.func137 (by kernel_rfl) rfl⟩
theorem en138 : En Tryz.prog 138 := ⟨enters_of Tryz.func138 (by kernel_rfl) rfl⟩
end Go.Proofs.YtlbidfeeckapgaaGreat
