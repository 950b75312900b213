/- The types of this program, as the walks by computation read them. -/
import Derived.Test.YtdogjfaidboggaaZSh
import Derived.Test.YtdogjfaidboggaaZSi
import Derived.Shelf.Abstract
set_option maxRecDepth 100000
namespace Go.Proofs.Ytdogjfaidboggaa
open Go.RowKit
def tab : Tab := [
  (3, ⟨1, false, [.ik .i64 0], [], none, none, some .i64, false⟩),
  (76, ⟨6, true, [.ik .i64 0, .ik .i64 0, .nsl, .nsl, .nsl, .nsl], [(0, 1), (1, 1), (2, 1), (3, 1), (4, 1), (5, 1)], none, none, none, false⟩),
  (45, ⟨5, true, [.ik .i64 0, .ik .i64 0, .ik .i64 0, .ik .i64 0, .nsl], [(0, 1), (1, 1), (2, 1), (3, 1), (4, 1)], none, none, none, false⟩),
  (150, ⟨7, true, [.ik .i64 0, .ik .i64 0, .ik .i64 0, .ik .i64 0, .ik .i64 0, .ik .i64 0, .ik .i64 0], [(0, 1), (1, 1), (2, 1), (3, 1), (4, 1), (5, 1), (6, 1)], none, some .sel, none, false⟩),
  (27, ⟨1, false, [.nsl], [], some (150, 7, 56), none, none, false⟩),
  (30, ⟨4, true, [.ik .i64 0, .ik .i64 0, .nsl, .nsl], [(0, 1), (1, 1), (2, 1), (3, 1)], none, none, none, false⟩),
  (28, ⟨1, false, [.nsl], [], some (148, 4, 32), none, none, false⟩),
  (43, ⟨2, true, [.ik .i64 0, .nsl], [(0, 1), (1, 1)], none, none, none, false⟩),
  (62, ⟨7, true, [.ik .i64 0, .ik .i64 0, .nsl, .nsl, .nsl, .nsl, .ik .i64 0], [(0, 1), (1, 2), (3, 1), (4, 1), (5, 1), (6, 1)], none, none, none, false⟩),
  (169, ⟨10, true, [.ik .i64 0, .ik .i64 0, .ik .i64 0, .ik .i64 0, .ik .i64 0, .ik .i64 0, .ik .i64 0, .ik .i64 0, .ik .i64 0, .ik .i64 0], [(0, 1), (1, 1), (2, 1), (3, 7)], none, none, none, false⟩),
  (74, ⟨1, false, [.nsl], [], some (169, 10, 80), none, none, false⟩),
  (148, ⟨4, true, [.ik .i64 0, .ik .i64 0, .ik .i64 0, .ik .i64 0], [(0, 1), (1, 1), (2, 1), (3, 1)], none, some .call, none, false⟩),
  (73, ⟨1, false, [.nsl], [], some (167, 2, 16), none, none, false⟩),
  (58, ⟨1, false, [.nsl], [], some (76, 6, 112), none, none, false⟩),
  (59, ⟨1, false, [.nsl], [], some (30, 4, 64), none, none, false⟩),
  (167, ⟨2, true, [.ik .i64 0, .ik .i64 0], [(0, 1), (1, 1)], none, some .want, none, false⟩),
  (71, ⟨6, true, [.ik .i64 0, .ik .i64 0, .nsl, .nsl, .nsl, .nsl], [(0, 1), (1, 1), (2, 1), (3, 1), (4, 1), (5, 1)], none, none, none, false⟩),
  (60, ⟨1, false, [.nsl], [], some (45, 5, 56), none, none, false⟩),
  (39, ⟨5, true, [.ik .i64 0, .ik .i64 0, .ik .i64 0, .ik .i64 0, .nsl], [(0, 1), (1, 1), (2, 1), (3, 1), (4, 1)], none, none, none, false⟩),
  (25, ⟨4, true, [.ik .i64 0, .ik .i64 0, .nsl, .nsl], [(0, 1), (1, 1), (2, 1), (3, 1)], none, none, none, false⟩),
  (4, ⟨1, false, [.bl (.lit false)], [], none, none, none, true⟩),
  (89, ⟨7, true, [.ik .i64 0, .ik .i64 0, .nsl, .nsl, .nsl, .nsl, .ik .i64 0], [(0, 1), (1, 2), (3, 1), (4, 1), (5, 1), (6, 1)], none, none, none, false⟩),
  (37, ⟨2, true, [.ik .i64 0, .nsl], [(0, 1), (1, 1)], none, none, none, false⟩),
  (22, ⟨1, false, [.nsl], [], some (152, 7, 56), none, none, false⟩),
  (23, ⟨1, false, [.nsl], [], some (154, 4, 32), none, none, false⟩),
  (152, ⟨7, true, [.ik .i64 0, .ik .i64 0, .ik .i64 0, .ik .i64 0, .ik .i64 0, .ik .i64 0, .ik .i64 0], [(0, 1), (1, 1), (2, 1), (3, 1), (4, 1), (5, 1), (6, 1)], none, none, none, false⟩),
  (85, ⟨1, false, [.nsl], [], some (71, 6, 112), none, none, false⟩),
  (86, ⟨1, false, [.nsl], [], some (25, 4, 64), none, none, false⟩),
  (87, ⟨1, false, [.nsl], [], some (39, 5, 56), none, none, false⟩),
  (68, ⟨1, false, [.nsl], [], some (174, 2, 16), none, none, false⟩),
  (69, ⟨1, false, [.nsl], [], some (177, 10, 80), none, none, false⟩),
  (154, ⟨4, true, [.ik .i64 0, .ik .i64 0, .ik .i64 0, .ik .i64 0], [(0, 1), (1, 1), (2, 1), (3, 1)], none, none, none, false⟩),
  (177, ⟨10, true, [.ik .i64 0, .ik .i64 0, .ik .i64 0, .ik .i64 0, .ik .i64 0, .ik .i64 0, .ik .i64 0, .ik .i64 0, .ik .i64 0, .ik .i64 0], [(0, 1), (1, 1), (2, 1), (3, 7)], none, none, none, false⟩),
  (174, ⟨2, true, [.ik .i64 0, .ik .i64 0], [(0, 1), (1, 1)], none, none, none, false⟩),
  (170, ⟨1, false, [.raw .nilFunc], [], none, none, none, false⟩)]
theorem tabOK : TabOK Try.prog tab := ⟨⟨by kernel_rfl, by kernel_rfl, rfl, fun _ => rfl, by kernel_rfl, .inl rfl, trivial, trivial, (show Try.prog.underlying 3 = some (.int .i64) from by kernel_rfl), trivial⟩,
 ⟨by kernel_rfl, by kernel_rfl, rfl, fun _ => rfl, by kernel_rfl, .inr (by kernel_rfl), trivial, trivial, trivial, trivial⟩,
 ⟨by kernel_rfl, by kernel_rfl, rfl, fun _ => rfl, by kernel_rfl, .inr (by kernel_rfl), trivial, trivial, trivial, trivial⟩,
 ⟨by kernel_rfl, by kernel_rfl, rfl, fun _ => rfl, by kernel_rfl, .inr (by kernel_rfl), trivial, ⟨by kernel_rfl, fun w x y => eqSl 9998 w x y⟩, trivial, trivial⟩,
 ⟨by kernel_rfl, by kernel_rfl, rfl, fun _ => rfl, by kernel_rfl, .inl rfl, ⟨.agg #[.int .i64 0, .int .i64 0, .int .i64 0, .int .i64 0, .int .i64 0, .int .i64 0, .int .i64 0], ⟨by kernel_rfl, by kernel_rfl, rfl, by decide⟩⟩, trivial, trivial, trivial⟩,
 ⟨by kernel_rfl, by kernel_rfl, rfl, fun _ => rfl, by kernel_rfl, .inr (by kernel_rfl), trivial, trivial, trivial, trivial⟩,
 ⟨by kernel_rfl, by kernel_rfl, rfl, fun _ => rfl, by kernel_rfl, .inl rfl, ⟨.agg #[.int .i64 0, .int .i64 0, .int .i64 0, .int .i64 0], ⟨by kernel_rfl, by kernel_rfl, rfl, by decide⟩⟩, trivial, trivial, trivial⟩,
 ⟨by kernel_rfl, by kernel_rfl, rfl, fun _ => rfl, by kernel_rfl, .inr (by kernel_rfl), trivial, trivial, trivial, trivial⟩,
 ⟨by kernel_rfl, by kernel_rfl, rfl, fun _ => rfl, by kernel_rfl, .inr (by kernel_rfl), trivial, trivial, trivial, trivial⟩,
 ⟨by kernel_rfl, by kernel_rfl, rfl, fun _ => rfl, by kernel_rfl, .inr (by kernel_rfl), trivial, trivial, trivial, trivial⟩,
 ⟨by kernel_rfl, by kernel_rfl, rfl, fun _ => rfl, by kernel_rfl, .inl rfl, ⟨.agg #[.int .i64 0, .int .i64 0, .int .i64 0, .int .i64 0, .int .i64 0, .int .i64 0, .int .i64 0, .int .i64 0, .int .i64 0, .int .i64 0], ⟨by kernel_rfl, by kernel_rfl, rfl, by decide⟩⟩, trivial, trivial, trivial⟩,
 ⟨by kernel_rfl, by kernel_rfl, rfl, fun _ => rfl, by kernel_rfl, .inr (by kernel_rfl), trivial, ⟨by kernel_rfl, fun w x y => eqCl 9998 w x y⟩, trivial, trivial⟩,
 ⟨by kernel_rfl, by kernel_rfl, rfl, fun _ => rfl, by kernel_rfl, .inl rfl, ⟨.agg #[.int .i64 0, .int .i64 0], ⟨by kernel_rfl, by kernel_rfl, rfl, by decide⟩⟩, trivial, trivial, trivial⟩,
 ⟨by kernel_rfl, by kernel_rfl, rfl, fun _ => rfl, by kernel_rfl, .inl rfl, ⟨.agg #[.int .i64 0, .int .i64 0, .slice none 0 0, .slice none 0 0, .slice none 0 0, .slice none 0 0], ⟨by kernel_rfl, by kernel_rfl, rfl, by decide⟩⟩, trivial, trivial, trivial⟩,
 ⟨by kernel_rfl, by kernel_rfl, rfl, fun _ => rfl, by kernel_rfl, .inl rfl, ⟨.agg #[.int .i64 0, .int .i64 0, .slice none 0 0, .slice none 0 0], ⟨by kernel_rfl, by kernel_rfl, rfl, by decide⟩⟩, trivial, trivial, trivial⟩,
 ⟨by kernel_rfl, by kernel_rfl, rfl, fun _ => rfl, by kernel_rfl, .inr (by kernel_rfl), trivial, ⟨by kernel_rfl, fun w x y => eqWn 9998 w x y⟩, trivial, trivial⟩,
 ⟨by kernel_rfl, by kernel_rfl, rfl, fun _ => rfl, by kernel_rfl, .inr (by kernel_rfl), trivial, trivial, trivial, trivial⟩,
 ⟨by kernel_rfl, by kernel_rfl, rfl, fun _ => rfl, by kernel_rfl, .inl rfl, ⟨.agg #[.int .i64 0, .int .i64 0, .int .i64 0, .int .i64 0, .slice none 0 0], ⟨by kernel_rfl, by kernel_rfl, rfl, by decide⟩⟩, trivial, trivial, trivial⟩,
 ⟨by kernel_rfl, by kernel_rfl, rfl, fun _ => rfl, by kernel_rfl, .inr (by kernel_rfl), trivial, trivial, trivial, trivial⟩,
 ⟨by kernel_rfl, by kernel_rfl, rfl, fun _ => rfl, by kernel_rfl, .inr (by kernel_rfl), trivial, trivial, trivial, trivial⟩,
 ⟨by kernel_rfl, by kernel_rfl, rfl, fun _ => rfl, by kernel_rfl, .inl rfl, trivial, trivial, trivial, (show Try.prog.underlying 4 = some .bool from by kernel_rfl)⟩,
 ⟨by kernel_rfl, by kernel_rfl, rfl, fun _ => rfl, by kernel_rfl, .inr (by kernel_rfl), trivial, trivial, trivial, trivial⟩,
 ⟨by kernel_rfl, by kernel_rfl, rfl, fun _ => rfl, by kernel_rfl, .inr (by kernel_rfl), trivial, trivial, trivial, trivial⟩,
 ⟨by kernel_rfl, by kernel_rfl, rfl, fun _ => rfl, by kernel_rfl, .inl rfl, ⟨.agg #[.int .i64 0, .int .i64 0, .int .i64 0, .int .i64 0, .int .i64 0, .int .i64 0, .int .i64 0], ⟨by kernel_rfl, by kernel_rfl, rfl, by decide⟩⟩, trivial, trivial, trivial⟩,
 ⟨by kernel_rfl, by kernel_rfl, rfl, fun _ => rfl, by kernel_rfl, .inl rfl, ⟨.agg #[.int .i64 0, .int .i64 0, .int .i64 0, .int .i64 0], ⟨by kernel_rfl, by kernel_rfl, rfl, by decide⟩⟩, trivial, trivial, trivial⟩,
 ⟨by kernel_rfl, by kernel_rfl, rfl, fun _ => rfl, by kernel_rfl, .inr (by kernel_rfl), trivial, trivial, trivial, trivial⟩,
 ⟨by kernel_rfl, by kernel_rfl, rfl, fun _ => rfl, by kernel_rfl, .inl rfl, ⟨.agg #[.int .i64 0, .int .i64 0, .slice none 0 0, .slice none 0 0, .slice none 0 0, .slice none 0 0], ⟨by kernel_rfl, by kernel_rfl, rfl, by decide⟩⟩, trivial, trivial, trivial⟩,
 ⟨by kernel_rfl, by kernel_rfl, rfl, fun _ => rfl, by kernel_rfl, .inl rfl, ⟨.agg #[.int .i64 0, .int .i64 0, .slice none 0 0, .slice none 0 0], ⟨by kernel_rfl, by kernel_rfl, rfl, by decide⟩⟩, trivial, trivial, trivial⟩,
 ⟨by kernel_rfl, by kernel_rfl, rfl, fun _ => rfl, by kernel_rfl, .inl rfl, ⟨.agg #[.int .i64 0, .int .i64 0, .int .i64 0, .int .i64 0, .slice none 0 0], ⟨by kernel_rfl, by kernel_rfl, rfl, by decide⟩⟩, trivial, trivial, trivial⟩,
 ⟨by kernel_rfl, by kernel_rfl, rfl, fun _ => rfl, by kernel_rfl, .inl rfl, ⟨.agg #[.int .i64 0, .int .i64 0], ⟨by kernel_rfl, by kernel_rfl, rfl, by decide⟩⟩, trivial, trivial, trivial⟩,
 ⟨by kernel_rfl, by kernel_rfl, rfl, fun _ => rfl, by kernel_rfl, .inl rfl, ⟨.agg #[.int .i64 0, .int .i64 0, .int .i64 0, .int .i64 0, .int .i64 0, .int .i64 0, .int .i64 0, .int .i64 0, .int .i64 0, .int .i64 0], ⟨by kernel_rfl, by kernel_rfl, rfl, by decide⟩⟩, trivial, trivial, trivial⟩,
 ⟨by kernel_rfl, by kernel_rfl, rfl, fun _ => rfl, by kernel_rfl, .inr (by kernel_rfl), trivial, trivial, trivial, trivial⟩,
 ⟨by kernel_rfl, by kernel_rfl, rfl, fun _ => rfl, by kernel_rfl, .inr (by kernel_rfl), trivial, trivial, trivial, trivial⟩,
 ⟨by kernel_rfl, by kernel_rfl, rfl, fun _ => rfl, by kernel_rfl, .inr (by kernel_rfl), trivial, trivial, trivial, trivial⟩,
 ⟨by kernel_rfl, by kernel_rfl, rfl, fun _ => rfl, by kernel_rfl, .inl rfl, trivial, trivial, trivial, trivial⟩, trivial⟩
theorem mixed : Try.prog.follows .mixedOrders = true := by kernel_rfl
theorem en3 : En Try.prog 3 := ⟨enters_of Try.func3 (by kernel_rfl) rfl⟩
theorem en4 : En Try.prog 4 := ⟨enters_of Try.func4 (by kernel_rfl) rfl⟩
theorem en5 : En Try.prog 5 := ⟨enters_of Try.func5 (by kernel_rfl) rfl⟩
theorem en6 : En Try.prog 6 := ⟨enters_of Try.func6 (by kernel_rfl) rfl⟩
theorem en7 : En Try.prog 7 := ⟨enters_of Try.func7 (by kernel_rfl) rfl⟩
theorem en8 : En Try.prog 8 := ⟨enters_of Try.func8 (by kernel_rfl) rfl⟩
theorem en9 : En Try.prog 9 := ⟨enters_of Try.func9 (by kernel_rfl) rfl⟩
theorem en10 : En Try.prog 10 := ⟨enters_of Try.func10 (by kernel_rfl) rfl⟩
theorem en11 : En Try.prog 11 := ⟨enters_of Try.func11 (by kernel_rfl) rfl⟩
theorem en12 : En Try.prog 12 := ⟨enters_of Try.func12 (by kernel_rfl) rfl⟩
theorem en13 : En Try.prog 13 := ⟨enters_of Try.func13 (by kernel_rfl) rfl⟩
theorem en14 : En Try.prog 14 := ⟨enters_of Try.func14 (by kernel_rfl) rfl⟩
theorem en15 : En Try.prog 15 := ⟨enters_of Try.func15 (by kernel_rfl) rfl⟩
theorem en16 : En Try.prog 16 := ⟨enters_of Try.func16 (by kernel_rfl) rfl⟩
theorem en17 : En Try.prog 17 := ⟨enters_of Try.func17 (by kernel_rfl) rfl⟩
theorem en18 : En Try.prog 18 := ⟨enters_of Try.func18 (by kernel_rfl) rfl⟩
theorem en19 : En Try.prog 19 := ⟨enters_of Try.func19 (by kernel_rfl) rfl⟩
theorem en20 : En Try.prog 20 := ⟨enters_of Try.func20 (by kernel_rfl) rfl⟩
theorem en21 : En Try.prog 21 := ⟨enters_of Try.func21 (by kernel_rfl) rfl⟩
theorem en22 : En Try.prog 22 := ⟨enters_of Try.func22 (by kernel_rfl) rfl⟩
theorem en23 : En Try.prog 23 := ⟨enters_of Try.func23 (by kernel_rfl) rfl⟩
theorem en24 : En Try.prog 24 := ⟨enters_of Try.func24 (by kernel_rfl) rfl⟩
theorem en25 : En Try.prog 25 := ⟨enters_of Try.func25 (by kernel_rfl) rfl⟩
theorem en26 : En Try.prog 26 := ⟨enters_of Try.func26 (by kernel_rfl) rfl⟩
theorem en27 : En Try.prog 27 := ⟨enters_of Try.func27 (by kernel_rfl) rfl⟩
theorem en28 : En Try.prog 28 := ⟨enters_of Try.func28 (by kernel_rfl) rfl⟩
theorem en29 : En Try.prog 29 := ⟨enters_of Try.func29 (by kernel_rfl) rfl⟩
theorem en30 : En Try.prog 30 := ⟨enters_of Try.func30 (by kernel_rfl) rfl⟩
theorem en31 : En Try.prog 31 := ⟨enters_of Try.func31 (by kernel_rfl) rfl⟩
theorem en32 : En Try.prog 32 := ⟨enters_of Try.func32 (by kernel_rfl) rfl⟩
theorem en33 : En Try.prog 33 := ⟨enters_of Try.func33 (by kernel_rfl) rfl⟩
theorem en34 : En Try.prog 34 := ⟨enters_of Try.func34 (by kernel_rfl) rfl⟩
theorem en35 : En Try.prog 35 := ⟨enters_of Try.func35 (by kernel_rfl) rfl⟩
theorem en36 : En Try.prog 36 := ⟨enters_of Try.func36 (by kernel_rfl) rfl⟩
theorem en37 : En Try.prog 37 := ⟨enters_of Try.func37 (by kernel_rfl) rfl⟩
theorem en38 : En Try.prog 38 := ⟨enters_of Try.func38 (by kernel_rfl) rfl⟩
theorem en39 : En Try.prog 39 := ⟨enters_of Try.func39 (by kernel_rfl) rfl⟩
theorem en40 : En Try.prog 40 := ⟨enters_of Try.func40 (by kernel_rfl) rfl⟩
theorem en41 : En Try.prog 41 := ⟨enters_of Try.func41 (by kernel_rfl) rfl⟩
theorem en42 : En Try.prog 42 := ⟨enters_of Try.func42 (by kernel_rfl) rfl⟩
theorem en43 : En Try.prog 43 := ⟨enters_of Try.func43 (by kernel_rfl) rfl⟩
theorem en44 : En Try.prog 44 := ⟨enters_of Try.func44 (by kernel_rfl) rfl⟩
theorem en45 : En Try.prog 45 := ⟨enters_of Try.func45 (by kernel_rfl) rfl⟩
theorem en46 : En Try.prog 46 := ⟨enters_of Try.func46 (by kernel_rfl) rfl⟩
theorem en47 : En Try.prog 47 := ⟨enters_of Try.func47 (by kernel_rfl) rfl⟩
theorem en48 : En Try.prog 48 := ⟨enters_of Try.func48 (by kernel_rfl) rfl⟩
theorem en49 : En Try.prog 49 := ⟨enters_of Try.func49 (by kernel_rfl) rfl⟩
theorem en50 : En Try.prog 50 := ⟨enters_of Try.func50 (by kernel_rfl) rfl⟩
theorem en51 : En Try.prog 51 := ⟨enters_of Try.func51 (by kernel_rfl) rfl⟩
theorem en52 : En Try.prog 52 := ⟨enters_of Try.func52 (by kernel_rfl) rfl⟩
theorem en53 : En Try.prog 53 := ⟨enters_of Try.func53 (by kernel_rfl) rfl⟩
theorem en54 : En Try.prog 54 := ⟨enters_of Try.func54 (by kernel_rfl) rfl⟩
theorem en55 : En Try.prog 55 := ⟨enters_of Try.func55 (by kernel_rfl) rfl⟩
theorem en56 : En Try.prog 56 := ⟨enters_of Try.func56 (by kernel_rfl) rfl⟩
theorem en57 : En Try.prog 57 := ⟨enters_of Try.func57 (by kernel_rfl) rfl⟩
theorem en58 : En Try.prog 58 := ⟨enters_of Try.func58 (by kernel_rfl) rfl⟩
theorem en59 : En Try.prog 59 := ⟨enters_of Try.func59 (by kernel_rfl) rfl⟩
theorem en60 : En Try.prog 60 := ⟨enters_of Try.func60 (by kernel_rfl) rfl⟩
theorem en61 : En Try.prog 61 := ⟨enters_of Try.func61 (by kernel_rfl) rfl⟩
theorem en62 : En Try.prog 62 := ⟨enters_of Try.func62 (by kernel_rfl) rfl⟩
theorem en63 : En Try.prog 63 := ⟨enters_of Try.func63 (by kernel_rfl) rfl⟩
theorem en64 : En Try.prog 64 := ⟨enters_of Try.func64 (by kernel_rfl) rfl⟩
theorem en65 : En Try.prog 65 := ⟨enters_of Try.func65 (by kernel_rfl) rfl⟩
theorem en66 : En Try.prog 66 := ⟨enters_of Try.func66 (by kernel_rfl) rfl⟩
theorem en67 : En Try.prog 67 := ⟨enters_of Try.func67 (by kernel_rfl) rfl⟩
theorem en68 : En Try.prog 68 := ⟨enters_of Try.func68 (by kernel_rfl) rfl⟩
theorem en69 : En Try.prog 69 := ⟨enters_of Try.func69 (by kernel_rfl) rfl⟩
theorem en70 : En Try.prog 70 := ⟨enters_of Try.func70 (by kernel_rfl) rfl⟩
theorem en71 : En Try.prog 71 := ⟨enters_of Try.func71 (by kernel_rfl) rfl⟩
theorem en72 : En Try.prog 72 := ⟨enters_of Try.func72 (by kernel_rfl) rfl⟩
theorem en73 : En Try.prog 73 := ⟨enters_of Try.func73 (by kernel_rfl) rfl⟩
theorem en74 : En Try.prog 74 := ⟨enters_of Try.func74 (by kernel_rfl) rfl⟩
theorem en75 : En Try.prog 75 := ⟨enters_of Try.func75 (by kernel_rfl) rfl⟩
theorem en76 : En Try.prog 76 := ⟨enters_of Try.func76 (by kernel_rfl) rfl⟩
theorem en77 : En Try.prog 77 := ⟨enters_of Try.func77 (by kernel_rfl) rfl⟩
theorem en78 : En Try.prog 78 := ⟨enters_of Try.func78 (by kernel_rfl) rfl⟩
theorem en79 : En Try.prog 79 := ⟨enters_of Try.func79 (by kernel_rfl) rfl⟩
theorem en80 : En Try.prog 80 := ⟨enters_of Try.func80 (by kernel_rfl) rfl⟩
theorem en81 : En Try.prog 81 := ⟨enters_of Try.func81 (by kernel_rfl) rfl⟩
theorem en82 : En Try.prog 82 := ⟨enters_of Try.func82 (by kernel_rfl) rfl⟩
theorem en83 : En Try.prog 83 := ⟨enters_of Try.func83 (by kernel_rfl) rfl⟩
theorem en84 : En Try.prog 84 := ⟨enters_of Try.func84 (by kernel_rfl) rfl⟩
theorem en85 : En Try.prog 85 := ⟨enters_of Try.func85 (by kernel_rfl) rfl⟩
theorem en86 : En Try.prog 86 := ⟨enters_of Try.func86 (by kernel_rfl) rfl⟩
theorem en87 : En Try.prog 87 := ⟨enters_of Try.func87 (by kernel_rfl) rfl⟩
theorem en88 : En Try.prog 88 := ⟨enters_of Try.func88 (by kernel_rfl) rfl⟩
theorem en89 : En Try.prog 89 := ⟨enters_of Try.func89 (by kernel_rfl) rfl⟩
theorem en90 : En Try.prog 90 := ⟨enters_of Try.func90 (by kernel_rfl) rfl⟩
theorem en91 : En Try.prog 91 := ⟨enters_of Try.func91 (by kernel_rfl) rfl⟩
theorem en92 : En Try.prog 92 := ⟨enters_of Try.func92 (by kernel_rfl) rfl⟩
theorem en93 : En Try.prog 93 := ⟨enters_of Try.func93 (by kernel_rfl) rfl⟩
theorem en94 : En Try.prog 94 := ⟨enters_of Try.func94 (by kernel_rfl) rfl⟩
theorem en95 : En Try.prog 95 := ⟨enters_of Try.func95 (by kernel_rfl) rfl⟩
theorem en96 : En Try.prog 96 := ⟨enters_of Try.func96 (by kernel_rfl) rfl⟩
theorem en97 : En Try.prog 97 := ⟨enters_of Try.func97 (by kernel_rfl) rfl⟩
theorem en98 : En Try.prog 98 := ⟨enters_of Try.func98 (by kernel_rfl) rfl⟩
theorem en99 : En Try.prog 99 := ⟨enters_of Try.func99 (by kernel_rfl) rfl⟩
theorem en100 : En Try.prog 100 := ⟨enters_of Try.func100 (by kernel_rfl) rfl⟩
theorem en101 : En Try.prog 101 := ⟨enters_of Try.func101 (by kernel_rfl) rfl⟩
theorem en102 : En Try.prog 102 := ⟨enters_of Try.func102 (by kernel_rfl) rfl⟩
theorem en103 : En Try.prog 103 := ⟨enters_of Try.func103 (by kernel_rfl) rfl⟩
theorem en104 : En Try.prog 104 := ⟨enters_of Try.func104 (by kernel_rfl) rfl⟩
theorem en105 : En Try.prog 105 := ⟨enters_of Try.func105 (by kernel_rfl) rfl⟩
theorem en106 : En Try.prog 106 := ⟨enters_of Try.func106 (by kernel_rfl) rfl⟩
theorem en107 : En Try.prog 107 := ⟨enters_of Try.func107 (by kernel_rfl) rfl⟩
theorem en108 : En Try.prog 108 := ⟨enters_of Try.func108 (by kernel_rfl) rfl⟩
theorem en109 : En Try.prog 109 := ⟨enters_of Try.func109 (by kernel_rfl) rfl⟩
theorem en110 : En Try.prog 110 := ⟨enters_of Try.func110 (by kernel_rfl) rfl⟩
theorem en111 : En Try.prog 111 := ⟨enters_of Try.func111 (by kernel_rfl) rfl⟩
theorem en112 : En Try.prog 112 := ⟨enters_of Try.func112 (by kernel_rfl) rfl⟩
theorem en113 : En Try.prog 113 := ⟨enters_of Try.func113 (by kernel_rfl) rfl⟩
theorem en114 : En Try.prog 114 := ⟨enters_of Try.func114 (by kernel_rfl) rfl⟩
theorem en115 : En Try.prog 115 := ⟨enters_of Try.func115 (by kernel_rfl) rfl⟩
theorem en116 : En Try.prog 116 := ⟨enters_of Try.func116 (by kernel_rfl) rfl⟩
theorem en117 : En Try.prog 117 := ⟨enters_of Try.func117 (by kernel_rfl) rfl⟩
theorem en118 : En Try.prog 118 := ⟨enters_of Try.func118 (by kernel_rfl) rfl⟩
theorem en119 : En Try.prog 119 := ⟨enters_of Try.func119 (by kernel_rfl) rfl⟩
theorem en120 : En Try.prog 120 := ⟨enters_of Try.func120 (by kernel_rfl) rfl⟩
theorem en121 : En Try.prog 121 := ⟨enters_of Try.func121 (by kernel_rfl) rfl⟩
theorem en122 : En Try.prog 122 := ⟨enters_of Try.func122 (by kernel_rfl) rfl⟩
theorem en123 : En Try.prog 123 := ⟨enters_of Try.func123 (by kernel_rfl) rfl⟩
theorem en124 : En Try.prog 124 := ⟨enters_of Try.func124 (by kernel_rfl) rfl⟩
theorem en125 : En Try.prog 125 := ⟨enters_of Try.func125 (by kernel_rfl) rfl⟩
theorem en126 : En Try.prog 126 := ⟨enters_of Try.func126 (by kernel_rfl) rfl⟩
theorem en127 : En Try.prog 127 := ⟨enters_of Try.func127 (by kernel_rfl) rfl⟩
theorem en128 : En Try.prog 128 := ⟨enters_of Try.func128 (by kernel_rfl) rfl⟩
theorem en129 : En Try.prog 129 := ⟨enters_of Try.func129 (by kernel_rfl) rfl⟩
theorem en130 : En Try.prog 130 := ⟨enters_of Try.func130 (by kernel_rfl) rfl⟩
theorem en131 : En Try.prog 131 := ⟨enters_of Try.func131 (by kernel_rfl) rfl⟩
theorem en132 : En Try.prog 132 := ⟨enters_of Try.func132 (by kernel_rfl) rfl⟩
theorem en133 : En Try.prog 133 := ⟨enters_of Try.func133 (by kernel_rfl) rfl⟩
theorem en134 : En Try.prog 134 := ⟨enters_of Try.func134 (by kernel_rfl) rfl⟩
theorem en135 : En Try.prog 135 := ⟨enters_of Try.func135 (by kernel_rfl) rfl⟩
theorem en136 : En Try.prog 136 := ⟨enters_of Try.func136 (by kernel_rfl) rfl⟩
theorem en137 : En Try.prog 137 := ⟨enters_of Try.func137 (by kernel_rfl) rfl⟩
theorem en138 : En Try.prog 138 := ⟨enters_of Try.func138 (by kernel_rfl) rfl⟩
theorem en139 : En Try.prog 139 := ⟨enters_of Try.func139 (by kernel_rfl) rfl⟩
theorem en140 : En Try.prog 140 := ⟨enters_of Try.func140 (by kernel_rfl) rfl⟩
theorem en141 : En Try.prog 141 := ⟨enters_of Try.func141 (by kernel_rfl) rfl⟩
theorem en142 : En Try.prog 142 := ⟨enters_of Try.func142 (by kernel_rfl) rfl⟩
theorem en143 : En Try.prog 143 := ⟨enters_of Try.func143 (by kernel_rfl) rfl⟩
theorem en144 : En Try.prog 144 := ⟨enters_of Try.func144 (by kernel_rfl) rfl⟩
theorem en145 : En Try.prog 145 := ⟨enters_of Try.func145 (by kernel_rfl) rfl⟩
theorem en146 : En Try.prog 146 := ⟨enters_of Try.func146 (by kernel_rfl) rfl⟩
theorem en147 : En Try.prog 147 := ⟨enters_of Try.func147 (by kernel_rfl) rfl⟩
theorem en148 : En Try.prog 148 := ⟨enters_of Try.func148 (by kernel_rfl) rfl⟩
theorem en149 : En Try.prog 149 := ⟨enters_of Try.func149 (by kernel_rfl) rfl⟩
theorem en150 : En Try.prog 150 := ⟨enters_of Try.func150 (by kernel_rfl) rfl⟩
theorem en151 : En Try.prog 151 := ⟨enters_of Try.func151 (by kernel_rfl) rfl⟩
theorem en152 : En Try.prog 152 := ⟨enters_of Try.func152 (by kernel_rfl) rfl⟩
theorem en153 : En Try.prog 153 := ⟨enters_of Try.func153 (by kernel_rfl) rfl⟩
theorem en154 : En Try.prog 154 := ⟨enters_of Try.func154 (by kernel_rfl) rfl⟩
theorem en155 : En Try.prog 155 := ⟨enters_of Try.func155 (by kernel_rfl) rfl⟩
theorem en156 : En Try.prog 156 := ⟨enters_of Try.func156 (by kernel_rfl) rfl⟩
theorem en157 : En Try.prog 157 := ⟨enters_of Try.func157 (by kernel_rfl) rfl⟩
theorem en158 : En Try.prog 158 := ⟨enters_of Try.func158 (by kernel_rfl) rfl⟩
theorem en159 : En Try.prog 159 := ⟨enters_of Try.func159 (by kernel_rfl) rfl⟩
theorem en160 : En Try.prog 160 := ⟨enters_of Try.func160 (by kernel_rfl) rfl⟩
theorem en161 : En Try.prog 161 := ⟨enters_of Try.func161 (by kernel_rfl) rfl⟩
theorem en162 : En Try.prog 162 := ⟨enters_of Try.func162 (by kernel_rfl) rfl⟩
theorem en163 : En Try.prog 163 := ⟨enters_of Try.func163 (by kernel_rfl) rfl⟩
theorem en164 : En Try.prog 164 := ⟨enters_of Try.func164 (by kernel_rfl) rfl⟩
theorem en165 : En Try.prog 165 := ⟨enters_of Try.func165 (by kernel_rfl) rfl⟩
theorem en166 : En Try.prog 166 := ⟨enters_of Try.func166 (by kernel_rfl) rfl⟩
theorem en167 : En Try.prog 167 := ⟨enters_of Try.func167 (by kernel_rfl) rfl⟩
theorem en168 : En Try.prog 168 := ⟨enters_of Try.func168 (by kernel_rfl) rfl⟩
theorem en169 : En Try.prog 169 := ⟨enters_of Try.func169 (by kernel_rfl) rfl⟩
theorem en170 : En Try.prog 170 := ⟨enters_of Try.func170 (by kernel_rfl) rfl⟩
theorem en171 : En Try.prog 171 := ⟨enters_of Try.func171 (by kernel_rfl) rfl⟩
theorem en172 : En Try.prog 172 := ⟨enters_of Try.func172 (by kernel_rfl) rfl⟩
theorem en173 : En Try.prog 173 := ⟨enters_of Try.func173 (by kernel_rfl) rfl⟩
theorem en174 : En Try.prog 174 := ⟨enters_of Try.func174 (by kernel_rfl) rfl⟩
theorem en175 : En Try.prog 175 := ⟨enters_of Try.func175 (by kernel_rfl) rfl⟩
theorem en176 : En Try.prog 176 := ⟨enters_of Try.func176 (by kernel_rfl) rfl⟩
theorem en177 : En Try.prog 177 := ⟨enters_of Try.func177 (by kernel_rfl) rfl⟩
theorem en178 : En Try.prog 178 := ⟨enters_of Try.func178 (by kernel_rfl) rfl⟩
theorem en179 : En Try.prog 179 := ⟨enters_of Try.func179 (by kernel_rfl) rfl⟩
theorem en180 : En Try.prog 180 := ⟨enters_of Try.func180 (by kernel_rfl) rfl⟩
theorem en181 : En Try.prog 181 := ⟨enters_of Try.func181 (by kernel_rfl) rfl⟩
theorem en182 : En Try.prog 182 := ⟨enters_of Try.func182 (by kernel_rfl) rfl⟩
theorem en183 : En Try.prog 183 := ⟨enters_of Try.func183 (by kernel_rfl) rfl⟩
theorem en184 : En Try.prog 184 := ⟨enters_of Try.func184 (by kernel_rfl) rfl⟩
theorem en185 : En Try.prog 185 := ⟨enters_of Try.func185 (by kernel_rfl) rfl⟩
theorem en186 : En Try.prog 186 := ⟨enters_of Try.func186 (by kernel_rfl) rfl⟩
theorem en187 : En Try.prog 187 := ⟨enters_of Try.func187 (by kernel_rfl) rfl⟩
theorem en188 : En Try.prog 188 := ⟨enters_of Try.func188 (by kernel_rfl) rfl⟩
theorem en189 : En Try.prog 189 := ⟨enters_of Try.func189 (by kernel_rfl) rfl⟩
theorem en190 : En Try.prog 190 := ⟨enters_of Try.func190 (by kernel_rfl) rfl⟩
theorem en191 : En Try.prog 191 := ⟨enters_of Try.func191 (by kernel_rfl) rfl⟩
theorem en192 : En Try.prog 192 := ⟨enters_of Try.func192 (by kernel_rfl) rfl⟩
theorem en193 : En Try.prog 193 := ⟨enters_of Try.func193 (by kernel_rfl) rfl⟩
theorem en194 : En Try.prog 194 := ⟨enters_of Try.func194 (by kernel_rfl) rfl⟩
theorem en195 : En Try.prog 195 := ⟨enters_of Try.func195 (by kernel_rfl) rfl⟩
end Go.Proofs.Ytdogjfaidboggaa
