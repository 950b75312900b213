/- The types of this program, as the walks by computation read them. -/
import Derived.Test.YtajdgbmgkjjaiaaZSh
import Derived.Test.YtajdgbmgkjjaiaaZSi
import Derived.Test.YtajdgbmgkjjaiaaZB5
import Derived.Shelf.Abstract
set_option maxRecDepth 100000
namespace Go.Proofs.Ytajdgbmgkjjaiaa
open Go.RowKit
def tab : Tab := [
  (3, ⟨1, false, [.ik .i64 0], [], none, none, some .i64, false, none⟩),
  (36, ⟨7, true, [.ik .i64 0, .ik .i64 0, .ik .i64 0, .ik .i64 0, .ik .i64 0, .ik .i64 0, .ik .i64 0], [(0, 1), (1, 1), (2, 1), (3, 1), (4, 1), (5, 1), (6, 1)], none, some .sel, none, false, none⟩),
  (27, ⟨5, true, [.ik .i64 0, .ik .i64 0, .ik .i64 0, .ik .i64 0, .nsl], [(0, 1), (1, 1), (2, 1), (3, 1), (4, 1)], none, none, none, false, none⟩),
  (23, ⟨1, false, [.nsl], [], some (36, 7, 56), none, none, false, none⟩),
  (103, ⟨6, true, [.ik .i64 0, .ik .i64 0, .nsl, .nsl, .nsl, .nsl], [(0, 1), (1, 1), (2, 1), (3, 1), (4, 1), (5, 1)], none, none, none, false, none⟩),
  (46, ⟨7, true, [.ik .i64 0, .ik .i64 0, .nsl, .nsl, .nsl, .nsl, .ik .i64 0], [(0, 1), (1, 2), (3, 1), (4, 1), (5, 1), (6, 1)], none, none, none, false, none⟩),
  (25, ⟨2, true, [.ik .i64 0, .nsl], [(0, 1), (1, 1)], none, none, none, false, none⟩),
  (87, ⟨8, true, [.ik .i64 0, .ik .i64 0, .ik .i64 0, .ik .i64 0, .ik .i64 0, .ik .i64 0, .ik .i64 0, .nsl], [(0, 1), (1, 1), (2, 1), (3, 5)], none, none, none, false, none⟩),
  (34, ⟨1, false, [.nsl], [], some (3, 1, 8), none, none, false, none⟩),
  (107, ⟨4, true, [.ik .i64 0, .ik .i64 0, .nsl, .nsl], [(0, 1), (1, 1), (2, 1), (3, 1)], none, none, none, false, none⟩),
  (44, ⟨1, false, [.nsl], [], some (27, 5, 56), none, none, false, none⟩),
  (99, ⟨1, false, [.nsl], [], some (123, 2, 16), none, none, false, none⟩),
  (100, ⟨1, false, [.nsl], [], some (126, 10, 80), none, none, false, none⟩),
  (101, ⟨1, false, [.nsl], [], some (128, 4, 32), none, none, false, none⟩),
  (22, ⟨1, false, [.nsl], [], some (5, 1, 1), none, none, false, none⟩),
  (128, ⟨4, true, [.ik .i64 0, .ik .i64 0, .ik .i64 0, .ik .i64 0], [(0, 1), (1, 1), (2, 1), (3, 1)], none, some .call, none, false, none⟩),
  (4, ⟨1, false, [.bl (.lit false)], [], none, none, none, true, none⟩),
  (43, ⟨1, false, [.nsl], [], some (107, 4, 64), none, none, false, none⟩),
  (126, ⟨10, true, [.ik .i64 0, .ik .i64 0, .ik .i64 0, .ik .i64 0, .ik .i64 0, .ik .i64 0, .ik .i64 0, .ik .i64 0, .ik .i64 0, .ik .i64 0], [(0, 1), (1, 1), (2, 1), (3, 7)], none, some .cred, none, false, none⟩),
  (63, ⟨2, true, [.nsl, .ik .i64 0], [(0, 1), (1, 1)], none, none, none, false, none⟩),
  (42, ⟨1, false, [.nsl], [], some (103, 6, 112), none, none, false, none⟩),
  (64, ⟨1, false, [.nsl], [], some (87, 8, 80), none, none, false, none⟩),
  (91, ⟨1, false, [.nsl], [], some (4, 1, 1), none, none, false, none⟩),
  (82, ⟨61, true, [.bl (.lit false), .bl (.lit false), .bl (.lit false), .bl (.lit false), .bl (.lit false), .bl (.lit false), .bl (.lit false), .bl (.lit false), .bl (.lit false), .bl (.lit false), .bl (.lit false), .bl (.lit false), .bl (.lit false), .bl (.lit false), .bl (.lit false), .bl (.lit false), .bl (.lit false), .bl (.lit false), .bl (.lit false), .bl (.lit false), .bl (.lit false), .bl (.lit false), .bl (.lit false), .bl (.lit false), .bl (.lit false), .bl (.lit false), .bl (.lit false), .bl (.lit false), .bl (.lit false), .bl (.lit false), .bl (.lit false), .bl (.lit false), .bl (.lit false), .bl (.lit false), .bl (.lit false), .bl (.lit false), .bl (.lit false), .bl (.lit false), .bl (.lit false), .bl (.lit false), .bl (.lit false), .bl (.lit false), .bl (.lit false), .bl (.lit false), .bl (.lit false), .bl (.lit false), .bl (.lit false), .bl (.lit false), .bl (.lit false), .bl (.lit false), .bl (.lit false), .bl (.lit false), .bl (.lit false), .bl (.lit false), .bl (.lit false), .bl (.lit false), .bl (.lit false), .bl (.lit false), .bl (.lit false), .bl (.lit false), .bl (.lit false)], [], none, none, none, false, some (61, 1)⟩),
  (5, ⟨1, false, [.ik .u8 0], [], none, none, some .u8, false, none⟩),
  (93, ⟨1, false, [.raw .nilFunc], [], none, none, none, false, none⟩),
  (123, ⟨2, true, [.ik .i64 0, .ik .i64 0], [(0, 1), (1, 1)], none, some .want, none, false, none⟩)]
theorem tabOK : TabOK Try.prog tab := ⟨⟨by kernel_rfl, by kernel_rfl, rfl, fun _ => rfl, by kernel_rfl, .inl rfl, trivial, trivial, (show Try.prog.underlying 3 = some (.int .i64) from by kernel_rfl), trivial, trivial⟩,
 ⟨by kernel_rfl, by kernel_rfl, rfl, fun _ => rfl, by kernel_rfl, .inr (by kernel_rfl), trivial, ⟨by kernel_rfl, fun w x y => eqSl 9998 w x y⟩, trivial, trivial, trivial⟩,
 ⟨by kernel_rfl, by kernel_rfl, rfl, fun _ => rfl, by kernel_rfl, .inr (by kernel_rfl), trivial, trivial, trivial, trivial, trivial⟩,
 ⟨by kernel_rfl, by kernel_rfl, rfl, fun _ => rfl, by kernel_rfl, .inl rfl, ⟨.agg #[.int .i64 0, .int .i64 0, .int .i64 0, .int .i64 0, .int .i64 0, .int .i64 0, .int .i64 0], ⟨by kernel_rfl, by kernel_rfl, rfl, by decide⟩⟩, trivial, trivial, trivial, trivial⟩,
 ⟨by kernel_rfl, by kernel_rfl, rfl, fun _ => rfl, by kernel_rfl, .inr (by kernel_rfl), trivial, trivial, trivial, trivial, trivial⟩,
 ⟨by kernel_rfl, by kernel_rfl, rfl, fun _ => rfl, by kernel_rfl, .inr (by kernel_rfl), trivial, trivial, trivial, trivial, trivial⟩,
 ⟨by kernel_rfl, by kernel_rfl, rfl, fun _ => rfl, by kernel_rfl, .inr (by kernel_rfl), trivial, trivial, trivial, trivial, trivial⟩,
 ⟨by kernel_rfl, by kernel_rfl, rfl, fun _ => rfl, by kernel_rfl, .inr (by kernel_rfl), trivial, trivial, trivial, trivial, trivial⟩,
 ⟨by kernel_rfl, by kernel_rfl, rfl, fun _ => rfl, by kernel_rfl, .inl rfl, ⟨.int .i64 0, ⟨by kernel_rfl, by kernel_rfl, rfl, by decide⟩⟩, trivial, trivial, trivial, trivial⟩,
 ⟨by kernel_rfl, by kernel_rfl, rfl, fun _ => rfl, by kernel_rfl, .inr (by kernel_rfl), trivial, trivial, trivial, trivial, trivial⟩,
 ⟨by kernel_rfl, by kernel_rfl, rfl, fun _ => rfl, by kernel_rfl, .inl rfl, ⟨.agg #[.int .i64 0, .int .i64 0, .int .i64 0, .int .i64 0, .slice none 0 0], ⟨by kernel_rfl, by kernel_rfl, rfl, by decide⟩⟩, trivial, trivial, trivial, trivial⟩,
 ⟨by kernel_rfl, by kernel_rfl, rfl, fun _ => rfl, by kernel_rfl, .inl rfl, ⟨.agg #[.int .i64 0, .int .i64 0], ⟨by kernel_rfl, by kernel_rfl, rfl, by decide⟩⟩, trivial, trivial, trivial, trivial⟩,
 ⟨by kernel_rfl, by kernel_rfl, rfl, fun _ => rfl, by kernel_rfl, .inl rfl, ⟨.agg #[.int .i64 0, .int .i64 0, .int .i64 0, .int .i64 0, .int .i64 0, .int .i64 0, .int .i64 0, .int .i64 0, .int .i64 0, .int .i64 0], ⟨by kernel_rfl, by kernel_rfl, rfl, by decide⟩⟩, trivial, trivial, trivial, trivial⟩,
 ⟨by kernel_rfl, by kernel_rfl, rfl, fun _ => rfl, by kernel_rfl, .inl rfl, ⟨.agg #[.int .i64 0, .int .i64 0, .int .i64 0, .int .i64 0], ⟨by kernel_rfl, by kernel_rfl, rfl, by decide⟩⟩, trivial, trivial, trivial, trivial⟩,
 ⟨by kernel_rfl, by kernel_rfl, rfl, fun _ => rfl, by kernel_rfl, .inl rfl, ⟨.int .u8 0, ⟨by kernel_rfl, by kernel_rfl, rfl, by decide⟩⟩, trivial, trivial, trivial, trivial⟩,
 ⟨by kernel_rfl, by kernel_rfl, rfl, fun _ => rfl, by kernel_rfl, .inr (by kernel_rfl), trivial, ⟨by kernel_rfl, fun w x y => eqCl 9998 w x y⟩, trivial, trivial, trivial⟩,
 ⟨by kernel_rfl, by kernel_rfl, rfl, fun _ => rfl, by kernel_rfl, .inl rfl, trivial, trivial, trivial, (show Try.prog.underlying 4 = some .bool from by kernel_rfl), trivial⟩,
 ⟨by kernel_rfl, by kernel_rfl, rfl, fun _ => rfl, by kernel_rfl, .inl rfl, ⟨.agg #[.int .i64 0, .int .i64 0, .slice none 0 0, .slice none 0 0], ⟨by kernel_rfl, by kernel_rfl, rfl, by decide⟩⟩, trivial, trivial, trivial, trivial⟩,
 ⟨by kernel_rfl, by kernel_rfl, rfl, fun _ => rfl, by kernel_rfl, .inr (by kernel_rfl), trivial, ⟨by kernel_rfl, fun w x y => eqCr 9997 w x y⟩, trivial, trivial, trivial⟩,
 ⟨by kernel_rfl, by kernel_rfl, rfl, fun _ => rfl, by kernel_rfl, .inr (by kernel_rfl), trivial, trivial, trivial, trivial, trivial⟩,
 ⟨by kernel_rfl, by kernel_rfl, rfl, fun _ => rfl, by kernel_rfl, .inl rfl, ⟨.agg #[.int .i64 0, .int .i64 0, .slice none 0 0, .slice none 0 0, .slice none 0 0, .slice none 0 0], ⟨by kernel_rfl, by kernel_rfl, rfl, by decide⟩⟩, trivial, trivial, trivial, trivial⟩,
 ⟨by kernel_rfl, by kernel_rfl, rfl, fun _ => rfl, by kernel_rfl, .inl rfl, ⟨.agg #[.int .i64 0, .int .i64 0, .int .i64 0, .int .i64 0, .int .i64 0, .int .i64 0, .int .i64 0, .slice none 0 0], ⟨by kernel_rfl, by kernel_rfl, rfl, by decide⟩⟩, trivial, trivial, trivial, trivial⟩,
 ⟨by kernel_rfl, by kernel_rfl, rfl, fun _ => rfl, by kernel_rfl, .inl rfl, ⟨.bool false, ⟨by kernel_rfl, by kernel_rfl, rfl, by decide⟩⟩, trivial, trivial, trivial, trivial⟩,
 ⟨by kernel_rfl, by kernel_rfl, rfl, fun _ => rfl, by kernel_rfl, .inl rfl, trivial, trivial, trivial, trivial, ⟨4, by kernel_rfl, by kernel_rfl⟩⟩,
 ⟨by kernel_rfl, by kernel_rfl, rfl, fun _ => rfl, by kernel_rfl, .inl rfl, trivial, trivial, (show Try.prog.underlying 5 = some (.int .u8) from by kernel_rfl), trivial, trivial⟩,
 ⟨by kernel_rfl, by kernel_rfl, rfl, fun _ => rfl, by kernel_rfl, .inl rfl, trivial, trivial, trivial, trivial, trivial⟩,
 ⟨by kernel_rfl, by kernel_rfl, rfl, fun _ => rfl, by kernel_rfl, .inr (by kernel_rfl), trivial, ⟨by kernel_rfl, fun w x y => eqWn 9998 w x y⟩, trivial, trivial, trivial⟩, trivial⟩
theorem mixed : Try.prog.follows .mixedOrders = true := by kernel_rfl
theorem en3 : En Try.prog 3 := ⟨enters_of Try.func3 (by kernel_rfl) rfl⟩
theorem en4 : En Try.prog 4 := ⟨enters_of Try.func4 (by kernel_rfl) rfl⟩
theorem en5 : En Try.prog 5 := ⟨enters_of Try.func5 (by kernel_rfl) rfl⟩
theorem en6 : En Try.prog 6 := ⟨enters_of Try.func6 (by kernel_rfl) rfl⟩
theorem en7 : En Try.prog 7 := ⟨enters_of Try.func7 (by kernel_rfl) rfl⟩
theorem en8 : En Try.prog 8 := ⟨enters_of Try.func8 (by kernel_rfl) rfl⟩
theorem en9 : En Try.prog 9 := ⟨enters_of Try.func9 (by kernel_rfl) rfl⟩
theorem en10 : En Try.prog 10 := ⟨enters_of Try.func10 (by kernel_rfl) rfl⟩
theorem en11 : En Try.prog 11 := ⟨enters_of Try.func11 (by kernel_rfl) rfl⟩
theorem en12 : En Try.prog 12 := ⟨enters_of Try.func12 (by kernel_rfl) rfl⟩
theorem en13 : En Try.prog 13 := ⟨enters_of Try.func13 (by kernel_rfl) rfl⟩
theorem en14 : En Try.prog 14 := ⟨enters_of Try.func14 (by kernel_rfl) rfl⟩
theorem en15 : En Try.prog 15 := ⟨enters_of Try.func15 (by kernel_rfl) rfl⟩
theorem en16 : En Try.prog 16 := ⟨enters_of Try.func16 (by kernel_rfl) rfl⟩
theorem en17 : En Try.prog 17 := ⟨enters_of Try.func17 (by kernel_rfl) rfl⟩
theorem en18 : En Try.prog 18 := ⟨enters_of Try.func18 (by kernel_rfl) rfl⟩
theorem en19 : En Try.prog 19 := ⟨enters_of Try.func19 (by kernel_rfl) rfl⟩
theorem en20 : En Try.prog 20 := ⟨enters_of Try.func20 (by kernel_rfl) rfl⟩
theorem en21 : En Try.prog 21 := ⟨enters_of Try.func21 (by kernel_rfl) rfl⟩
theorem en22 : En Try.prog 22 := ⟨enters_of Try.func22 (by kernel_rfl) rfl⟩
theorem en23 : En Try.prog 23 := ⟨enters_of Try.func23 (by kernel_rfl) rfl⟩
theorem en24 : En Try.prog 24 := ⟨enters_of Try.func24 (by kernel_rfl) rfl⟩
theorem en25 : En Try.prog 25 := ⟨enters_of Try.func25 (by kernel_rfl) rfl⟩
theorem en26 : En Try.prog 26 := ⟨enters_of Try.func26 (by kernel_rfl) rfl⟩
theorem en27 : En Try.prog 27 := ⟨enters_of Try.func27 (by kernel_rfl) rfl⟩
theorem en28 : En Try.prog 28 := ⟨enters_of Try.func28 (by kernel_rfl) rfl⟩
theorem en29 : En Try.prog 29 := ⟨enters_of Try.func29 (by kernel_rfl) rfl⟩
theorem en30 : En Try.prog 30 := ⟨enters_of Try.func30 (by kernel_rfl) rfl⟩
theorem en31 : En Try.prog 31 := ⟨enters_of Try.func31 (by kernel_rfl) rfl⟩
theorem en32 : En Try.prog 32 := ⟨enters_of Try.func32 (by kernel_rfl) rfl⟩
theorem en33 : En Try.prog 33 := ⟨enters_of Try.func33 (by kernel_rfl) rfl⟩
theorem en34 : En Try.prog 34 := ⟨enters_of Try.func34 (by kernel_rfl) rfl⟩
theorem en35 : En Try.prog 35 := ⟨enters_of Try.func35 (by kernel_rfl) rfl⟩
theorem en36 : En Try.prog 36 := ⟨enters_of Try.func36 (by kernel_rfl) rfl⟩
theorem en37 : En Try.prog 37 := ⟨enters_of Try.func37 (by kernel_rfl) rfl⟩
theorem en38 : En Try.prog 38 := ⟨enters_of Try.func38 (by kernel_rfl) rfl⟩
theorem en39 : En Try.prog 39 := ⟨enters_of Try.func39 (by kernel_rfl) rfl⟩
theorem en40 : En Try.prog 40 := ⟨enters_of Try.func40 (by kernel_rfl) rfl⟩
theorem en41 : En Try.prog 41 := ⟨enters_of Try.func41 (by kernel_rfl) rfl⟩
theorem en42 : En Try.prog 42 := ⟨enters_of Try.func42 (by kernel_rfl) rfl⟩
theorem en43 : En Try.prog 43 := ⟨enters_of Try.func43 (by kernel_rfl) rfl⟩
theorem en44 : En Try.prog 44 := ⟨enters_of Try.func44 (by kernel_rfl) rfl⟩
theorem en45 : En Try.prog 45 := ⟨enters_of Try.func45 (by kernel_rfl) rfl⟩
theorem en46 : En Try.prog 46 := ⟨enters_of Try.func46 (by kernel_rfl) rfl⟩
theorem en47 : En Try.prog 47 := ⟨enters_of Try.func47 (by kernel_rfl) rfl⟩
theorem en48 : En Try.prog 48 := ⟨enters_of Try.func48 (by kernel_rfl) rfl⟩
theorem en49 : En Try.prog 49 := ⟨enters_of Try.func49 (by kernel_rfl) rfl⟩
theorem en50 : En Try.prog 50 := ⟨enters_of Try.func50 (by kernel_rfl) rfl⟩
theorem en51 : En Try.prog 51 := ⟨enters_of Try.func51 (by kernel_rfl) rfl⟩
theorem en52 : En Try.prog 52 := ⟨enters_of Try.func52 (by kernel_rfl) rfl⟩
theorem en53 : En Try.prog 53 := ⟨enters_of Try.func53 (by kernel_rfl) rfl⟩
theorem en54 : En Try.prog 54 := ⟨enters_of Try.func54 (by kernel_rfl) rfl⟩
theorem en55 : En Try.prog 55 := ⟨enters_of Try.func55 (by kernel_rfl) rfl⟩
theorem en56 : En Try.prog 56 := ⟨enters_of Try.func56 (by kernel_rfl) rfl⟩
theorem en57 : En Try.prog 57 := ⟨enters_of Try.func57 (by kernel_rfl) rfl⟩
theorem en58 : En Try.prog 58 := ⟨enters_of Try.func58 (by kernel_rfl) rfl⟩
theorem en59 : En Try.prog 59 := ⟨enters_of Try.func59 (by kernel_rfl) rfl⟩
theorem en60 : En Try.prog 60 := ⟨enters_of Try.func60 (by kernel_rfl) rfl⟩
theorem en61 : En Try.prog 61 := ⟨enters_of Try.func61 (by kernel_rfl) rfl⟩
theorem en62 : En Try.prog 62 := ⟨enters_of Try.func62 (by kernel_rfl) rfl⟩
theorem en63 : En Try.prog 63 := ⟨enters_of Try.func63 (by kernel_rfl) rfl⟩
theorem en64 : En Try.prog 64 := ⟨enters_of Try.func64 (by kernel_rfl) rfl⟩
theorem en65 : En Try.prog 65 := ⟨enters_of Try.func65 (by kernel_rfl) rfl⟩
theorem en66 : En Try.prog 66 := ⟨enters_of Try.func66 (by kernel_rfl) rfl⟩
theorem en70 : En Try.prog 70 := ⟨enters_of Try.func70 (by kernel_rfl) rfl⟩
theorem en71 : En Try.prog 71 := ⟨enters_of Try.func71 (by kernel_rfl) rfl⟩
theorem en72 : En Try.prog 72 := ⟨enters_of Try.func72 (by kernel_rfl) rfl⟩
theorem en73 : En Try.prog 73 := ⟨enters_of Try.func73 (by kernel_rfl) rfl⟩
theorem en74 : En Try.prog 74 := ⟨enters_of Try.func74 (by kernel_rfl) rfl⟩
theorem en75 : En Try.prog 75 := ⟨enters_of Try.func75 (by kernel_rfl) rfl⟩
theorem en76 : En Try.prog 76 := ⟨enters_of Try.func76 (by kernel_rfl) rfl⟩
theorem en77 : En Try.prog 77 := ⟨enters_of Try.func77 (by kernel_rfl) rfl⟩
theorem en78 : En Try.prog 78 := ⟨enters_of Try.func78 (by kernel_rfl) rfl⟩
theorem en79 : En Try.prog 79 := ⟨enters_of Try.func79 (by kernel_rfl) rfl⟩
theorem en80 : En Try.prog 80 := ⟨enters_of Try.func80 (by kernel_rfl) rfl⟩
theorem en81 : En Try.prog 81 := ⟨enters_of Try.func81 (by kernel_rfl) rfl⟩
theorem en82 : En Try.prog 82 := ⟨enters_of Try.func82 (by kernel_rfl) rfl⟩
theorem en83 : En Try.prog 83 := ⟨enters_of Try.func83 (by kernel_rfl) rfl⟩
theorem en84 : En Try.prog 84 := ⟨enters_of Try.func84 (by kernel_rfl) rfl⟩
theorem en85 : En Try.prog 85 := ⟨enters_of Try.func85 (by kernel_rfl) rfl⟩
theorem en86 : En Try.prog 86 := ⟨enters_of Try.func86 (by kernel_rfl) rfl⟩
theorem en87 : En Try.prog 87 := ⟨enters_of Try.func87 (by kernel_rfl) rfl⟩
theorem en88 : En Try.prog 88 := ⟨enters_of Try.func88 (by kernel_rfl) rfl⟩
theorem en89 : En Try.prog 89 := ⟨enters_of Try.func89 (by kernel_rfl) rfl⟩
theorem en90 : En Try.prog 90 := ⟨enters_of Try.func90 (by kernel_rfl) rfl⟩
theorem en91 : En Try.prog 91 := ⟨enters_of Try.func91 (by kernel_rfl) rfl⟩
theorem en92 : En Try.prog 92 := ⟨enters_of Try.func92 (by kernel_rfl) rfl⟩
theorem en93 : En Try.prog 93 := ⟨enters_of Try.func93 (by kernel_rfl) rfl⟩
theorem en94 : En Try.prog 94 := ⟨enters_of Try.func94 (by kernel_rfl) rfl⟩
theorem en95 : En Try.prog 95 := ⟨enters_of Try.func95 (by kernel_rfl) rfl⟩
theorem en96 : En Try.prog 96 := ⟨enters_of Try.func96 (by kernel_rfl) rfl⟩
theorem en97 : En Try.prog 97 := ⟨enters_of Try.func97 (by kernel_rfl) rfl⟩
theorem en98 : En Try.prog 98 := ⟨enters_of Try.func98 (by kernel_rfl) rfl⟩
theorem en99 : En Try.prog 99 := ⟨enters_of Try.func99 (by kernel_rfl) rfl⟩
end Go.Proofs.Ytajdgbmgkjjaiaa
