/- The types of this program, as the walks by computation read them. -/
import Derived.Test.YtajdgbmgkjjaiaaGreatZSh
import Derived.Test.YtajdgbmgkjjaiaaGreatZSi
import Derived.Test.YtajdgbmgkjjaiaaGreatZB5
import Derived.Shelf.Abstract
set_option maxRecDepth 100000
namespace Go.Proofs.YtajdgbmgkjjaiaaGreat
open Go.RowKit
def tab : Tab := [
  (3, ⟨1, false, [.ik .i64 0], [], none, none, some .i64, false, none⟩),
  (28, ⟨5, true, [.ik .i64 0, .ik .i64 0, .ik .i64 0, .ik .i64 0, .nsl], [(0, 1), (1, 1), (2, 1), (3, 1), (4, 1)], none, none, none, false, none⟩),
  (37, ⟨7, true, [.ik .i64 0, .ik .i64 0, .ik .i64 0, .ik .i64 0, .ik .i64 0, .ik .i64 0, .ik .i64 0], [(0, 1), (1, 1), (2, 1), (3, 1), (4, 1), (5, 1), (6, 1)], none, some .sel, none, false, none⟩),
  (46, ⟨7, true, [.ik .i64 0, .ik .i64 0, .nsl, .nsl, .nsl, .nsl, .ik .i64 0], [(0, 1), (1, 2), (3, 1), (4, 1), (5, 1), (6, 1)], none, none, none, false, none⟩),
  (23, ⟨1, false, [.nsl], [], some (37, 7, 56), none, none, false, none⟩),
  (61, ⟨6, true, [.ik .i64 0, .ik .i64 0, .nsl, .nsl, .nsl, .nsl], [(0, 1), (1, 1), (2, 1), (3, 1), (4, 1), (5, 1)], none, none, none, false, none⟩),
  (26, ⟨4, true, [.ik .i64 0, .ik .i64 0, .nsl, .nsl], [(0, 1), (1, 1), (2, 1), (3, 1)], none, none, none, false, none⟩),
  (24, ⟨1, false, [.nsl], [], some (103, 4, 32), none, none, false, none⟩),
  (44, ⟨1, false, [.nsl], [], some (28, 5, 56), none, none, false, none⟩),
  (103, ⟨4, true, [.ik .i64 0, .ik .i64 0, .ik .i64 0, .ik .i64 0], [(0, 1), (1, 1), (2, 1), (3, 1)], none, some .call, none, false, none⟩),
  (58, ⟨1, false, [.nsl], [], some (129, 2, 16), none, none, false, none⟩),
  (41, ⟨2, true, [.ik .i64 0, .nsl], [(0, 1), (1, 1)], none, none, none, false, none⟩),
  (43, ⟨1, false, [.nsl], [], some (26, 4, 64), none, none, false, none⟩),
  (59, ⟨1, false, [.nsl], [], some (131, 10, 80), none, none, false, none⟩),
  (42, ⟨1, false, [.nsl], [], some (61, 6, 112), none, none, false, none⟩),
  (142, ⟨8, true, [.ik .i64 0, .ik .i64 0, .ik .i64 0, .ik .i64 0, .ik .i64 0, .ik .i64 0, .ik .i64 0, .nsl], [(0, 1), (1, 1), (2, 1), (3, 5)], none, none, none, false, none⟩),
  (131, ⟨10, true, [.ik .i64 0, .ik .i64 0, .ik .i64 0, .ik .i64 0, .ik .i64 0, .ik .i64 0, .ik .i64 0, .ik .i64 0, .ik .i64 0, .ik .i64 0], [(0, 1), (1, 1), (2, 1), (3, 7)], none, some .cred, none, false, none⟩),
  (35, ⟨1, false, [.nsl], [], some (3, 1, 8), none, none, false, none⟩),
  (129, ⟨2, true, [.ik .i64 0, .ik .i64 0], [(0, 1), (1, 1)], none, some .want, none, false, none⟩),
  (22, ⟨1, false, [.nsl], [], some (5, 1, 1), none, none, false, none⟩),
  (4, ⟨1, false, [.bl (.lit false)], [], none, none, none, true, none⟩),
  (105, ⟨2, true, [.nsl, .ik .i64 0], [(0, 1), (1, 1)], none, none, none, false, none⟩),
  (106, ⟨1, false, [.nsl], [], some (142, 8, 80), none, none, false, none⟩),
  (145, ⟨1, false, [.nsl], [], some (4, 1, 1), none, none, false, none⟩),
  (122, ⟨61, true, [.bl (.lit false), .bl (.lit false), .bl (.lit false), .bl (.lit false), .bl (.lit false), .bl (.lit false), .bl (.lit false), .bl (.lit false), .bl (.lit false), .bl (.lit false), .bl (.lit false), .bl (.lit false), .bl (.lit false), .bl (.lit false), .bl (.lit false), .bl (.lit false), .bl (.lit false), .bl (.lit false), .bl (.lit false), .bl (.lit false), .bl (.lit false), .bl (.lit false), .bl (.lit false), .bl (.lit false), .bl (.lit false), .bl (.lit false), .bl (.lit false), .bl (.lit false), .bl (.lit false), .bl (.lit false), .bl (.lit false), .bl (.lit false), .bl (.lit false), .bl (.lit false), .bl (.lit false), .bl (.lit false), .bl (.lit false), .bl (.lit false), .bl (.lit false), .bl (.lit false), .bl (.lit false), .bl (.lit false), .bl (.lit false), .bl (.lit false), .bl (.lit false), .bl (.lit false), .bl (.lit false), .bl (.lit false), .bl (.lit false), .bl (.lit false), .bl (.lit false), .bl (.lit false), .bl (.lit false), .bl (.lit false), .bl (.lit false), .bl (.lit false), .bl (.lit false), .bl (.lit false), .bl (.lit false), .bl (.lit false), .bl (.lit false)], [], none, none, none, false, some (61, 1)⟩),
  (5, ⟨1, false, [.ik .u8 0], [], none, none, some .u8, false, none⟩),
  (79, ⟨1, false, [.nilp], [], none, none, none, false, none⟩),
  (84, ⟨1, false, [.raw .nilFunc], [], none, none, none, false, none⟩),
  (153, ⟨1, false, [.nilp], [], none, none, none, false, none⟩)]
theorem tabOK : TabOK Tryz.prog tab := ⟨⟨by kernel_rfl, by kernel_rfl, rfl, fun _ => rfl, by kernel_rfl, .inl rfl, trivial, trivial, (show Tryz.prog.underlying 3 = some (.int .i64) from by kernel_rfl), trivial, trivial⟩,
 ⟨by kernel_rfl, by kernel_rfl, rfl, fun _ => rfl, by kernel_rfl, .inr (by kernel_rfl), trivial, trivial, trivial, trivial, trivial⟩,
 ⟨by kernel_rfl, by kernel_rfl, rfl, fun _ => rfl, by kernel_rfl, .inr (by kernel_rfl), trivial, ⟨by kernel_rfl, fun w x y => eqSl 9998 w x y⟩, trivial, trivial, trivial⟩,
 ⟨by kernel_rfl, by kernel_rfl, rfl, fun _ => rfl, by kernel_rfl, .inr (by kernel_rfl), trivial, trivial, trivial, trivial, trivial⟩,
 ⟨by kernel_rfl, by kernel_rfl, rfl, fun _ => rfl, by kernel_rfl, .inl rfl, ⟨.agg #[.int .i64 0, .int .i64 0, .int .i64 0, .int .i64 0, .int .i64 0, .int .i64 0, .int .i64 0], ⟨by kernel_rfl, by kernel_rfl, rfl, by decide⟩⟩, trivial, trivial, trivial, trivial⟩,
 ⟨by kernel_rfl, by kernel_rfl, rfl, fun _ => rfl, by kernel_rfl, .inr (by kernel_rfl), trivial, trivial, trivial, trivial, trivial⟩,
 ⟨by kernel_rfl, by kernel_rfl, rfl, fun _ => rfl, by kernel_rfl, .inr (by kernel_rfl), trivial, trivial, trivial, trivial, trivial⟩,
 ⟨by kernel_rfl, by kernel_rfl, rfl, fun _ => rfl, by kernel_rfl, .inl rfl, ⟨.agg #[.int .i64 0, .int .i64 0, .int .i64 0, .int .i64 0], ⟨by kernel_rfl, by kernel_rfl, rfl, by decide⟩⟩, trivial, trivial, trivial, trivial⟩,
 ⟨by kernel_rfl, by kernel_rfl, rfl, fun _ => rfl, by kernel_rfl, .inl rfl, ⟨.agg #[.int .i64 0, .int .i64 0, .int .i64 0, .int .i64 0, .slice none 0 0], ⟨by kernel_rfl, by kernel_rfl, rfl, by decide⟩⟩, trivial, trivial, trivial, trivial⟩,
 ⟨by kernel_rfl, by kernel_rfl, rfl, fun _ => rfl, by kernel_rfl, .inr (by kernel_rfl), trivial, ⟨by kernel_rfl, fun w x y => eqCl 9998 w x y⟩, trivial, trivial, trivial⟩,
 ⟨by kernel_rfl, by kernel_rfl, rfl, fun _ => rfl, by kernel_rfl, .inl rfl, ⟨.agg #[.int .i64 0, .int .i64 0], ⟨by kernel_rfl, by kernel_rfl, rfl, by decide⟩⟩, trivial, trivial, trivial, trivial⟩,
 ⟨by kernel_rfl, by kernel_rfl, rfl, fun _ => rfl, by kernel_rfl, .inr (by kernel_rfl), trivial, trivial, trivial, trivial, trivial⟩,
 ⟨by kernel_rfl, by kernel_rfl, rfl, fun _ => rfl, by kernel_rfl, .inl rfl, ⟨.agg #[.int .i64 0, .int .i64 0, .slice none 0 0, .slice none 0 0], ⟨by kernel_rfl, by kernel_rfl, rfl, by decide⟩⟩, trivial, trivial, trivial, trivial⟩,
 ⟨by kernel_rfl, by kernel_rfl, rfl, fun _ => rfl, by kernel_rfl, .inl rfl, ⟨.agg #[.int .i64 0, .int .i64 0, .int .i64 0, .int .i64 0, .int .i64 0, .int .i64 0, .int .i64 0, .int .i64 0, .int .i64 0, .int .i64 0], ⟨by kernel_rfl, by kernel_rfl, rfl, by decide⟩⟩, trivial, trivial, trivial, trivial⟩,
 ⟨by kernel_rfl, by kernel_rfl, rfl, fun _ => rfl, by kernel_rfl, .inl rfl, ⟨.agg #[.int .i64 0, .int .i64 0, .slice none 0 0, .slice none 0 0, .slice none 0 0, .slice none 0 0], ⟨by kernel_rfl, by kernel_rfl, rfl, by decide⟩⟩, trivial, trivial, trivial, trivial⟩,
 ⟨by kernel_rfl, by kernel_rfl, rfl, fun _ => rfl, by kernel_rfl, .inr (by kernel_rfl), trivial, trivial, trivial, trivial, trivial⟩,
 ⟨by kernel_rfl, by kernel_rfl, rfl, fun _ => rfl, by kernel_rfl, .inr (by kernel_rfl), trivial, ⟨by kernel_rfl, fun w x y => eqCr 9997 w x y⟩, trivial, trivial, trivial⟩,
 ⟨by kernel_rfl, by kernel_rfl, rfl, fun _ => rfl, by kernel_rfl, .inl rfl, ⟨.int .i64 0, ⟨by kernel_rfl, by kernel_rfl, rfl, by decide⟩⟩, trivial, trivial, trivial, trivial⟩,
 ⟨by kernel_rfl, by kernel_rfl, rfl, fun _ => rfl, by kernel_rfl, .inr (by kernel_rfl), trivial, ⟨by kernel_rfl, fun w x y => eqWn 9998 w x y⟩, trivial, trivial, trivial⟩,
 ⟨by kernel_rfl, by kernel_rfl, rfl, fun _ => rfl, by kernel_rfl, .inl rfl, ⟨.int .u8 0, ⟨by kernel_rfl, by kernel_rfl, rfl, by decide⟩⟩, trivial, trivial, trivial, trivial⟩,
 ⟨by kernel_rfl, by kernel_rfl, rfl, fun _ => rfl, by kernel_rfl, .inl rfl, trivial, trivial, trivial, (show Tryz.prog.underlying 4 = some .bool from by kernel_rfl), trivial⟩,
 ⟨by kernel_rfl, by kernel_rfl, rfl, fun _ => rfl, by kernel_rfl, .inr (by kernel_rfl), trivial, trivial, trivial, trivial, trivial⟩,
 ⟨by kernel_rfl, by kernel_rfl, rfl, fun _ => rfl, by kernel_rfl, .inl rfl, ⟨.agg #[.int .i64 0, .int .i64 0, .int .i64 0, .int .i64 0, .int .i64 0, .int .i64 0, .int .i64 0, .slice none 0 0], ⟨by kernel_rfl, by kernel_rfl, rfl, by decide⟩⟩, trivial, trivial, trivial, trivial⟩,
 ⟨by kernel_rfl, by kernel_rfl, rfl, fun _ => rfl, by kernel_rfl, .inl rfl, ⟨.bool false, ⟨by kernel_rfl, by kernel_rfl, rfl, by decide⟩⟩, trivial, trivial, trivial, trivial⟩,
 ⟨by kernel_rfl, by kernel_rfl, rfl, fun _ => rfl, by kernel_rfl, .inl rfl, trivial, trivial, trivial, trivial, ⟨4, by kernel_rfl, by kernel_rfl⟩⟩,
 ⟨by kernel_rfl, by kernel_rfl, rfl, fun _ => rfl, by kernel_rfl, .inl rfl, trivial, trivial, (show Tryz.prog.underlying 5 = some (.int .u8) from by kernel_rfl), trivial, trivial⟩,
 ⟨by kernel_rfl, by kernel_rfl, rfl, fun _ => rfl, by kernel_rfl, .inl rfl, trivial, trivial, trivial, trivial, trivial⟩,
 ⟨by kernel_rfl, by kernel_rfl, rfl, fun _ => rfl, by kernel_rfl, .inl rfl, trivial, trivial, trivial, trivial, trivial⟩,
 ⟨by kernel_rfl, by kernel_rfl, rfl, fun _ => rfl, by kernel_rfl, .inl rfl, trivial, trivial, trivial, trivial, trivial⟩, trivial⟩
theorem mixed : Tryz.prog.follows .mixedOrders = true := by kernel_rfl
theorem en4 : En Tryz.prog 4 := ⟨enters_of Tryz.func4 (by kernel_rfl) rfl⟩
theorem en12 : En Tryz.prog 12 := ⟨enters_of Tryz.func12 (by kernel_rfl) rfl⟩
theorem en13 : En Tryz.prog 13 := ⟨enters_of Tryz.func13 (by kernel_rfl) rfl⟩
theorem en14 : En Tryz.prog 14 := ⟨enters_of Tryz.func14 (by kernel_rfl) rfl⟩
theorem en15 : En Tryz.prog 15 := ⟨enters_of Tryz.func15 (by kernel_rfl) rfl⟩
theorem en16 : En Tryz.prog 16 := ⟨enters_of Tryz.func16 (by kernel_rfl) rfl⟩
theorem en17 : En Tryz.prog 17 := ⟨enters_of Tryz.func17 (by kernel_rfl) rfl⟩
theorem en20 : En Tryz.prog 20 := ⟨enters_of Tryz.func20 (by kernel_rfl) rfl⟩
theorem en26 : En Tryz.prog 26 := ⟨enters_of Tryz.func26 (by kernel_rfl) rfl⟩
theorem en28 : En Tryz.prog 28 := ⟨enters_of Tryz.func28 (by kernel_rfl) rfl⟩
theorem en29 : En Tryz.prog 29 := ⟨enters_of Tryz.func29 (by kernel_rfl) rfl⟩
theorem en30 : En Tryz.prog 30 := ⟨enters_of Tryz.func30 (by kernel_rfl) rfl⟩
theorem en31 : En Tryz.prog 31 := ⟨enters_of Tryz.func31 (by kernel_rfl) rfl⟩
theorem en32 : En Tryz.prog 32 := ⟨enters_of Tryz.func32 (by kernel_rfl) rfl⟩
theorem en33 : En Tryz.prog 33 := ⟨enters_of Tryz.func33 (by kernel_rfl) rfl⟩
theorem en34 : En Tryz.prog 34 := ⟨enters_of Tryz.func34 (by kernel_rfl) rfl⟩
theorem en36 : En Tryz.prog 36 := ⟨enters_of Tryz.func36 (by kernel_rfl) rfl⟩
theorem en37 : En Tryz.prog 37 := ⟨enters_of Tryz.func37 (by kernel_rfl) rfl⟩
theorem en42 : En Tryz.prog 42 := ⟨enters_of Tryz.func42 (by kernel_rfl) rfl⟩
theorem en43 : En Tryz.prog 43 := ⟨enters_of Tryz.func43 (by kernel_rfl) rfl⟩
theorem en46 : En Tryz.prog 46 := ⟨enters_of Tryz.func46 (by kernel_rfl) rfl⟩
theorem en48 : En Tryz.prog 48 := ⟨enters_of Tryz.func48 (by kernel_rfl) rfl⟩
theorem en49 : En Tryz.prog 49 := ⟨enters_of Tryz.func49 (by kernel_rfl) rfl⟩
theorem en50 : En Tryz.prog 50 := ⟨enters_of Tryz.func50 (by kernel_rfl) rfl⟩
theorem en51 : En Tryz.prog 51 := ⟨enters_of Tryz.func51 (by kernel_rfl) rfl⟩
theorem en52 : En Tryz.prog 52 := ⟨enters_of Tryz.func52 (by kernel_rfl) rfl⟩
theorem en53 : En Tryz.prog 53 := ⟨enters_of Tryz.func53 (by kernel_rfl) rfl⟩
theorem en54 : En Tryz.prog 54 := ⟨enters_of Tryz.func54 (by kernel_rfl) rfl⟩
theorem en55 : En Tryz.prog 55 := ⟨enters_of Tryz.func55 (by kernel_rfl) rfl⟩
theorem en56 : En Tryz.prog 56 := ⟨enters_of Tryz.func56 (by kernel_rfl) rfl⟩
theorem en58 : En Tryz.prog 58 := ⟨enters_of Tryz.func58 (by kernel_rfl) rfl⟩
theorem en59 : En Tryz.prog 59 := ⟨enters_of Tryz.func59 (by kernel_rfl) rfl⟩
theorem en60 : En Tryz.prog 60 := ⟨enters_of Tryz.func60 (by kernel_rfl) rfl⟩
theorem en68 : En Tryz.prog 68 := ⟨enters_of Tryz.func68 (by kernel_rfl) rfl⟩
theorem en69 : En Tryz.prog 69 := ⟨enters_of Tryz.func69 (by kernel_rfl) rfl⟩
theorem en70 : En Tryz.prog 70 := ⟨enters_of Tryz.func70 (by kernel_rfl) rfl⟩
theorem en71 : En Tryz.prog 71 := ⟨enters_of Tryz.func71 (by kernel_rfl) rfl⟩
theorem en72 : En Tryz.prog 72 := ⟨enters_of Tryz.func72 (by kernel_rfl) rfl⟩
theorem en73 : En Tryz.prog 73 := ⟨enters_of Tryz.func73 (by kernel_rfl) rfl⟩
theorem en74 : En Tryz.prog 74 := ⟨enters_of Tryz.func74 (by kernel_rfl) rfl⟩
theorem en75 : En Tryz.prog 75 := ⟨enters_of Tryz.func75 (by kernel_rfl) rfl⟩
theorem en76 : En Tryz.prog 76 := ⟨enters_of Tryz.func76 (by kernel_rfl) rfl⟩
theorem en77 : En Tryz.prog 77 := ⟨enters_of Tryz.func77 (by kernel_rfl) rfl⟩
theorem en78 : En Tryz.prog 78 := ⟨enters_of Tryz.func78 (by kernel_rfl) rfl⟩
theorem en79 : En Tryz.prog 79 := ⟨enters_of Tryz.func79 (by kernel_rfl) rfl⟩
theorem en80 : En Tryz.prog 80 := ⟨enters_of Tryz.func80 (by kernel_rfl) rfl⟩
theorem en81 : En Tryz.prog 81 := ⟨enters_of Tryz.func81 (by kernel_rfl) rfl⟩
theorem en82 : En Tryz.prog 82 := ⟨enters_of Tryz.func82 (by kernel_rfl) rfl⟩
theorem en83 : En Tryz.prog 83 := ⟨enters_of Tryz.func83 (by kernel_rfl) rfl⟩
theorem en84 : En Tryz.prog 84 := ⟨enters_of Tryz.func84 (by kernel_rfl) rfl⟩
theorem en85 : En Tryz.prog 85 := ⟨enters_of Tryz.func85 (by kernel_rfl) rfl⟩
theorem en86 : En Tryz.prog 86 := ⟨enters_of Tryz.func86 (by kernel_rfl) rfl⟩
theorem en92 : En Tryz.prog 92 := ⟨enters_of Tryz.func92 (by kernel_rfl) rfl⟩
theorem en93 : En Tryz.prog 93 := ⟨enters_of Tryz.func93 (by kernel_rfl) rfl⟩
theorem en94 : En Tryz.prog 94 := ⟨enters_of Tryz.func94 (by kernel_rfl) rfl⟩
theorem en95 : En Tryz.prog 95 := ⟨enters_of Tryz.func95 (by kernel_rfl) rfl⟩
theorem en96 : En Tryz.prog 96 := ⟨enters_of Tryz.func96 (by kernel_rfl) rfl⟩
theorem en97 : En Tryz.prog 97 := ⟨enters_of Tryz.func97 (by kernel_rfl) rfl⟩
theorem en98 : En Tryz.prog 98 := ⟨enters_of Tryz.func98 (by kernel_rfl) rfl⟩
theorem en99 : En Tryz.prog 99 := ⟨enters_of Tryz.func99 (by kernel_rfl) rfl⟩
theorem en100 : En Tryz.prog 100 := ⟨enters_of Tryz.func100 (by kernel_rfl) rfl⟩
theorem en101 : En Tryz.prog 101 := ⟨enters_of Tryz.func101 (by kernel_rfl) rfl⟩
theorem en102 : En Tryz.prog 102 := ⟨enters_of Tryz.func102 (by kernel_rfl) rfl⟩
theorem en103 : En Tryz.prog 103 := ⟨enters_of Tryz.func103 (by kernel_rfl) rfl⟩
theorem en104 : En Tryz.prog 104 := ⟨enters_of Tryz.func104 (by kernel_rfl) rfl⟩
theorem en105 : En Tryz.prog 105 := ⟨enters_of Tryz.func105 (by kernel_rfl) rfl⟩
theorem en106 : En Tryz.prog 106 := ⟨enters_of Tryz.func106 (by kernel_rfl) rfl⟩
theorem en107 : En Tryz.prog 107 := ⟨enters_of Tryz.func107 (by kernel_rfl) rfl⟩
theorem en108 : En Tryz.prog 108 := ⟨enters_of Tryz.func108 (by kernel_rfl) rfl⟩
theorem en109 : En Tryz.prog 109 := ⟨enters_of Tryz.func109 (by kernel_rfl) rfl⟩
theorem en119 : En Tryz.prog 119 := ⟨enters_of Tryz.func119 (by kernel_rfl) rfl⟩
theorem en120 : En Tryz.prog 120 := ⟨enters_of Tryz.func120 (by kernel_rfl) rfl⟩
theorem en121 : En Tryz.prog 121 := ⟨enters_of Tryz.func121 (by kernel_rfl) rfl⟩
theorem en122 : En Tryz.prog 122 := ⟨enters_of Tryz.func122 (by kernel_rfl) rfl⟩
theorem en123 : En Tryz.prog 123 := ⟨enters_of Tryz.func123 (by kernel_rfl) rfl⟩
theorem en124 : En Tryz.prog 124 := ⟨enters_of Tryz.func124 (by kernel_rfl) rfl⟩
theorem en125 : En Tryz.prog 125 := ⟨enters_of Tryz.func125 (by kernel_rfl) rfl⟩
theorem en129 : En Tryz.prog 129 := ⟨enters_of Tryz.func129 (by kernel_rfl) rfl⟩
theorem en130 : En Tryz.prog 130 := ⟨enters_of Tryz.func130 (by kernel_rfl) rfl⟩
theorem en131 : En Tryz.prog 131 := ⟨enters_of Tryz.func131 (by kernel_rfl) rfl⟩
theorem en132 : En Tryz.prog 132 := ⟨enters_of Tryz.func132 (by kernel_rfl) rfl⟩
theorem en145 : En Tryz.prog 145 := ⟨enters_of Tryz.func145 (by kernel_rfl) rfl⟩
theorem en146 : En Tryz.prog 146 := ⟨enters_of Tryz.func146 (by kernel_rfl) rfl⟩
theorem en147 : En Tryz.prog 147 := ⟨enters_of Tryz.func147 (by kernel_rfl) rfl⟩
theorem en148 : En Tryz.prog 148 := ⟨enters_of Tryz.func148 (by kernel_rfl) rfl⟩
theorem en149 : En Tryz.prog 149 := ⟨enters_of Tryz.func149 (by kernel_rfl) rfl⟩
theorem en150 : En Tryz.prog 150 := ⟨enters_of Tryz.func150 (by kernel_rfl) rfl⟩
theorem en151 : En Tryz.prog 151 := ⟨enters_of Tryz.func151 (by kernel_rfl) rfl⟩
theorem en152 : En Tryz.prog 152 := ⟨enters_of Tryz.func152 (by kernel_rfl) rfl⟩
theorem en153 : En Tryz.prog 153 := ⟨enters_of Tryz.func153 (by kernel_rfl) rfl⟩
theorem en159 : En Tryz.prog 159 := ⟨enters_of Tryz.func159 (by kernel_rfl) rfl⟩
theorem en160 : En Tryz.prog 160 := ⟨enters_of Tryz.func160 (by kernel_rfl) rfl⟩
theorem en161 : En Tryz.prog 161 := ⟨enters_of Tryz.func161 (by kernel_rfl) rfl⟩
theorem en162 : En Tryz.prog 162 := ⟨enters_of Tryz.func162 (by kernel_rfl) rfl⟩
theorem en163 : En Tryz.prog 163 := ⟨enters_of Tryz.func163 (by kernel_rfl) rfl⟩
theorem en164 : En Tryz.prog 164 := ⟨enters_of Tryz.func164 (by kernel_rfl) rfl⟩
theorem en165 : En Tryz.prog 165 := ⟨enters_of Tryz.func165 (by kernel_rfl) rfl⟩
theorem en166 : En Tryz.prog 166 := ⟨enters_of Tryz.func166 (by kernel_rfl) rfl⟩
theorem en169 : En Tryz.prog 169 := ⟨enters_of Tryz.func169 (by kernel_rfl) rfl⟩
theorem en170 : En Tryz.prog 170 := ⟨enters_of Tryz.func170 (by kernel_rfl) rfl⟩
theorem en171 : En Tryz.prog 171 := ⟨enters_of Tryz.func171 (by kernel_rfl) rfl⟩
end Go.Proofs.YtajdgbmgkjjaiaaGreat
