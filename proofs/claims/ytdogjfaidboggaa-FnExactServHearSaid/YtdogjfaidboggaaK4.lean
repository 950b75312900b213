/- Who shows a ticket; the giver: ok, copied. -/
import Derived.Test.YtdogjfaidboggaaK1
import Derived.Test.YtdogjfaidboggaaE1
import Derived.Test.YtdogjfaidboggaaC2Kc
import Derived.Deep.RegionHeld3
import Derived.Deep.RegionWith
set_option linter.unusedVariables false
set_option linter.unusedSimpArgs false
namespace Go.Proofs.Ytdogjfaidboggaa
open Go.RowKit
def shB (t a : Sl) (id now : Int) : Bool := t.t == 1 && (t.k == id && (inB now t.d t.e && (a.t == 3 && (a.k == t.c && a.a == t.a))))
theorem inB_dec (n lo hi : Int) : inB n lo hi = (decide (lo ≤ n) && decide (n ≤ hi)) := by rw [Bool.eq_iff_iff, inB_true]; simp
set_option maxHeartbeats 1000000 in
theorem specShown (t a : Sl) (id now : Int) (w : World) : Calls Try.prog 144 #[slV t, slV a, .int .i64 id, .int .i64 now] w fun e w' => e = .returned (.bool (shB t a id now)) ∧ Below w.heap.size w w' := by
  cases z1 : (t.t == 1)
  · have HS := Asd.mk (show shB t a id now = false from by simp [shB, inB_dec, z1])
    go_enter Try.func144, Try.ntmps144
    go_wp2
    go_ret
    exact ⟨by rw [HS.out]; rfl, by repeat (first | with_reducible exact Below.refl _ _ | with_reducible refine bset ?_ (by omega) _ _ | with_reducible refine balloc ?_ _ | with_reducible refine bdrew ?_ | with_reducible refine bdrewN ?_ _ | refine bstep ?_ (by assumption))⟩
  · skip
    cases z2 : (t.k == id)
    · have HS := Asd.mk (show shB t a id now = false from by simp [shB, inB_dec, z1, z2])
      go_enter Try.func144, Try.ntmps144
      go_wp2
      go_ret
      exact ⟨by rw [HS.out]; rfl, by repeat (first | with_reducible exact Below.refl _ _ | with_reducible refine bset ?_ (by omega) _ _ | with_reducible refine balloc ?_ _ | with_reducible refine bdrew ?_ | with_reducible refine bdrewN ?_ _ | refine bstep ?_ (by assumption))⟩
    · skip
      cases z3 : (decide (t.d ≤ now))
      · have HS := Asd.mk (show shB t a id now = false from by simp [shB, inB_dec, z1, z2, z3])
        go_enter Try.func144, Try.ntmps144
        go_wp2
        go_ret
        exact ⟨by rw [HS.out]; rfl, by repeat (first | with_reducible exact Below.refl _ _ | with_reducible refine bset ?_ (by omega) _ _ | with_reducible refine balloc ?_ _ | with_reducible refine bdrew ?_ | with_reducible refine bdrewN ?_ _ | refine bstep ?_ (by assumption))⟩
      · skip
        cases z4 : (decide (now ≤ t.e))
        · have HS := Asd.mk (show shB t a id now = false from by simp [shB, inB_dec, z1, z2, z3, z4])
          go_enter Try.func144, Try.ntmps144
          go_wp2
          go_ret
          exact ⟨by rw [HS.out]; rfl, by repeat (first | with_reducible exact Below.refl _ _ | with_reducible refine bset ?_ (by omega) _ _ | with_reducible refine balloc ?_ _ | with_reducible refine bdrew ?_ | with_reducible refine bdrewN ?_ _ | refine bstep ?_ (by assumption))⟩
        · skip
          cases z5 : (a.t == 3)
          · have HS := Asd.mk (show shB t a id now = false from by simp [shB, inB_dec, z1, z2, z3, z4, z5])
            go_enter Try.func144, Try.ntmps144
            go_wp2
            go_ret
            exact ⟨by rw [HS.out]; rfl, by repeat (first | with_reducible exact Below.refl _ _ | with_reducible refine bset ?_ (by omega) _ _ | with_reducible refine balloc ?_ _ | with_reducible refine bdrew ?_ | with_reducible refine bdrewN ?_ _ | refine bstep ?_ (by assumption))⟩
          · skip
            cases z6 : (a.k == t.c)
            · have HS := Asd.mk (show shB t a id now = false from by simp [shB, inB_dec, z1, z2, z3, z4, z5, z6])
              go_enter Try.func144, Try.ntmps144
              go_wp2
              go_ret
              exact ⟨by rw [HS.out]; rfl, by repeat (first | with_reducible exact Below.refl _ _ | with_reducible refine bset ?_ (by omega) _ _ | with_reducible refine balloc ?_ _ | with_reducible refine bdrew ?_ | with_reducible refine bdrewN ?_ _ | refine bstep ?_ (by assumption))⟩
            · skip
              cases z7 : (a.a == t.a)
              · have HS := Asd.mk (show shB t a id now = false from by simp [shB, inB_dec, z1, z2, z3, z4, z5, z6, z7])
                go_enter Try.func144, Try.ntmps144
                go_wp2
                go_ret
                exact ⟨by rw [HS.out]; rfl, by repeat (first | with_reducible exact Below.refl _ _ | with_reducible refine bset ?_ (by omega) _ _ | with_reducible refine balloc ?_ _ | with_reducible refine bdrew ?_ | with_reducible refine bdrewN ?_ _ | refine bstep ?_ (by assumption))⟩
              · skip
                have HS := Asd.mk (show shB t a id now = true from by simp [shB, inB_dec, z1, z2, z3, z4, z5, z6, z7])
                go_enter Try.func144, Try.ntmps144
                go_wp2
                go_ret
                exact ⟨by rw [HS.out]; rfl, by repeat (first | with_reducible exact Below.refl _ _ | with_reducible refine bset ?_ (by omega) _ _ | with_reducible refine balloc ?_ _ | with_reducible refine bdrew ?_ | with_reducible refine bdrewN ?_ _ | refine bstep ?_ (by assumption))⟩
set_option maxHeartbeats 1000000 in
theorem implShown (t a : Sl) (id now : Int) (w : World) : Calls Try.prog 146 #[slV t, slV a, .int .i64 id, .int .i64 now] w fun e w' => e = .returned (.bool (shB t a id now)) ∧ Below w.heap.size w w' := by
  cases z1 : (t.t == 1)
  · have HS := Asd.mk (show shB t a id now = false from by simp [shB, z1])
    go_enter Try.func146, Try.ntmps146
    go_wp2_with ((with_reducible go_at_call 83); (with_reducible refine (within _ _ _ _).mono ?_); rintro e w' ⟨rfl, rfl⟩)
    go_ret
    exact ⟨by rw [HS.out]; rfl, by repeat (first | with_reducible exact Below.refl _ _ | with_reducible refine bset ?_ (by omega) _ _ | with_reducible refine balloc ?_ _ | with_reducible refine bdrew ?_ | with_reducible refine bdrewN ?_ _ | refine bstep ?_ (by assumption))⟩
  · skip
    cases z2 : (t.k == id)
    · have HS := Asd.mk (show shB t a id now = false from by simp [shB, z1, z2])
      go_enter Try.func146, Try.ntmps146
      go_wp2_with ((with_reducible go_at_call 83); (with_reducible refine (within _ _ _ _).mono ?_); rintro e w' ⟨rfl, rfl⟩)
      go_ret
      exact ⟨by rw [HS.out]; rfl, by repeat (first | with_reducible exact Below.refl _ _ | with_reducible refine bset ?_ (by omega) _ _ | with_reducible refine balloc ?_ _ | with_reducible refine bdrew ?_ | with_reducible refine bdrewN ?_ _ | refine bstep ?_ (by assumption))⟩
    · skip
      cases z3 : (inB now t.d t.e)
      · have HS := Asd.mk (show shB t a id now = false from by simp [shB, z1, z2, z3])
        go_enter Try.func146, Try.ntmps146
        go_wp2_with ((with_reducible go_at_call 83); (with_reducible refine (within _ _ _ _).mono ?_); rintro e w' ⟨rfl, rfl⟩)
        go_ret
        exact ⟨by rw [HS.out]; rfl, by repeat (first | with_reducible exact Below.refl _ _ | with_reducible refine bset ?_ (by omega) _ _ | with_reducible refine balloc ?_ _ | with_reducible refine bdrew ?_ | with_reducible refine bdrewN ?_ _ | refine bstep ?_ (by assumption))⟩
      · skip
        cases z5 : (a.t == 3)
        · have HS := Asd.mk (show shB t a id now = false from by simp [shB, z1, z2, z3, z5])
          go_enter Try.func146, Try.ntmps146
          go_wp2_with ((with_reducible go_at_call 83); (with_reducible refine (within _ _ _ _).mono ?_); rintro e w' ⟨rfl, rfl⟩)
          go_ret
          exact ⟨by rw [HS.out]; rfl, by repeat (first | with_reducible exact Below.refl _ _ | with_reducible refine bset ?_ (by omega) _ _ | with_reducible refine balloc ?_ _ | with_reducible refine bdrew ?_ | with_reducible refine bdrewN ?_ _ | refine bstep ?_ (by assumption))⟩
        · skip
          cases z6 : (a.k == t.c)
          · have HS := Asd.mk (show shB t a id now = false from by simp [shB, z1, z2, z3, z5, z6])
            go_enter Try.func146, Try.ntmps146
            go_wp2_with ((with_reducible go_at_call 83); (with_reducible refine (within _ _ _ _).mono ?_); rintro e w' ⟨rfl, rfl⟩)
            go_ret
            exact ⟨by rw [HS.out]; rfl, by repeat (first | with_reducible exact Below.refl _ _ | with_reducible refine bset ?_ (by omega) _ _ | with_reducible refine balloc ?_ _ | with_reducible refine bdrew ?_ | with_reducible refine bdrewN ?_ _ | refine bstep ?_ (by assumption))⟩
          · skip
            cases z7 : (a.a == t.a)
            · have HS := Asd.mk (show shB t a id now = false from by simp [shB, z1, z2, z3, z5, z6, z7])
              go_enter Try.func146, Try.ntmps146
              go_wp2_with ((with_reducible go_at_call 83); (with_reducible refine (within _ _ _ _).mono ?_); rintro e w' ⟨rfl, rfl⟩)
              go_ret
              exact ⟨by rw [HS.out]; rfl, by repeat (first | with_reducible exact Below.refl _ _ | with_reducible refine bset ?_ (by omega) _ _ | with_reducible refine balloc ?_ _ | with_reducible refine bdrew ?_ | with_reducible refine bdrewN ?_ _ | refine bstep ?_ (by assumption))⟩
            · skip
              have HS := Asd.mk (show shB t a id now = true from by simp [shB, z1, z2, z3, z5, z6, z7])
              go_enter Try.func146, Try.ntmps146
              go_wp2_with ((with_reducible go_at_call 83); (with_reducible refine (within _ _ _ _).mono ?_); rintro e w' ⟨rfl, rfl⟩)
              go_ret
              exact ⟨by rw [HS.out]; rfl, by repeat (first | with_reducible exact Below.refl _ _ | with_reducible refine bset ?_ (by omega) _ _ | with_reducible refine balloc ?_ _ | with_reducible refine bdrew ?_ | with_reducible refine bdrewN ?_ _ | refine bstep ?_ (by assumption))⟩
open Classical in
noncomputable def kcB (k : Kc) : Bool := inB k.next 10 61 && cacheB k.cache
theorem specKdcOk (k : Kc) (A1 : Option Addr) (c1 : Nat) (w : World) (v1 : Asd (View w A1 k.cache.length (sls k.cache))) (k1 : k.cache.length ≤ c1) :
    Calls Try.prog 71 #[kcV k A1 c1] w fun e w' => e = .returned (.bool (kcB k)) ∧ Below w.heap.size w w' := by
  cases h1 : inB k.next 10 61
  · have HS := Asd.mk (show kcB k = false by rw [kcB, h1]; rfl)
    go_enter Try.func71, Try.ntmps71
    go_wp2_with (first | ((with_reducible go_at_call 79); (with_reducible refine (l6In _ _ _ _).mono ?_); rintro e w' ⟨rfl, rfl⟩) | ((with_reducible go_at_call 149); (with_reducible refine (l1User _ _).mono ?_); rintro e w' ⟨rfl, rfl⟩) | ((with_reducible go_at_call 126); (with_reducible refine (l1Serv _ _).mono ?_); rintro e w' ⟨rfl, rfl⟩) | ((with_reducible go_at_call 151); (with_reducible refine (l1Session _ _).mono ?_); rintro e w' ⟨rfl, rfl⟩) | ((with_reducible go_at_call 58); (with_reducible refine (l1Time _ _).mono ?_); rintro e w' ⟨rfl, rfl⟩) | ((with_reducible go_at_call 170); (with_reducible refine (l1Num _ _).mono ?_); rintro e w' ⟨rfl, rfl⟩) | ((with_reducible go_at_call 83); (with_reducible refine (within _ _ _ _).mono ?_); rintro e w' ⟨rfl, rfl⟩) | ((with_reducible go_at_call 135); (with_reducible refine (userOk _ _).mono ?_); rintro e w' ⟨rfl, rfl⟩) | ((with_reducible go_at_call 131); (with_reducible refine (servOk _ _).mono ?_); rintro e w' ⟨rfl, rfl⟩) | ((with_reducible go_at_call 157); (with_reducible refine (giverOk _ _).mono ?_); rintro e w' ⟨rfl, rfl⟩) | ((with_reducible go_at_call 136); (with_reducible refine (madeOk _ _).mono ?_); rintro e w' ⟨rfl, rfl⟩) | ((with_reducible go_at_call 63); (with_reducible refine (timeOk _ _).mono ?_); rintro e w' ⟨rfl, rfl⟩) | ((with_reducible go_at_call 137); (with_reducible refine (numberOk _ _).mono ?_); rintro e w' ⟨rfl, rfl⟩) | ((with_reducible go_at_call 127); (with_reducible refine (l11Cache A1 c1 k.cache _ ⟨v1.out.bel (by repeat (first | with_reducible exact Below.refl _ _ | with_reducible refine bset ?_ (by omega) _ _ | with_reducible refine balloc ?_ _ | with_reducible refine bdrew ?_ | with_reducible refine bdrewN ?_ _ | refine bstep ?_ (by assumption)))⟩ k1).mono ?_); rintro e w1 ⟨rfl, hb1⟩))
    go_ret
    exact ⟨by rw [HS.out]; rfl, by repeat (first | with_reducible exact Below.refl _ _ | with_reducible refine bset ?_ (by omega) _ _ | with_reducible refine balloc ?_ _ | with_reducible refine bdrew ?_ | with_reducible refine bdrewN ?_ _ | refine bstep ?_ (by assumption))⟩
  · have HS := Asd.mk (show kcB k = cacheB k.cache by rw [kcB, h1]; rfl)
    go_enter Try.func71, Try.ntmps71
    go_wp2_with (first | ((with_reducible go_at_call 79); (with_reducible refine (l6In _ _ _ _).mono ?_); rintro e w' ⟨rfl, rfl⟩) | ((with_reducible go_at_call 149); (with_reducible refine (l1User _ _).mono ?_); rintro e w' ⟨rfl, rfl⟩) | ((with_reducible go_at_call 126); (with_reducible refine (l1Serv _ _).mono ?_); rintro e w' ⟨rfl, rfl⟩) | ((with_reducible go_at_call 151); (with_reducible refine (l1Session _ _).mono ?_); rintro e w' ⟨rfl, rfl⟩) | ((with_reducible go_at_call 58); (with_reducible refine (l1Time _ _).mono ?_); rintro e w' ⟨rfl, rfl⟩) | ((with_reducible go_at_call 170); (with_reducible refine (l1Num _ _).mono ?_); rintro e w' ⟨rfl, rfl⟩) | ((with_reducible go_at_call 83); (with_reducible refine (within _ _ _ _).mono ?_); rintro e w' ⟨rfl, rfl⟩) | ((with_reducible go_at_call 135); (with_reducible refine (userOk _ _).mono ?_); rintro e w' ⟨rfl, rfl⟩) | ((with_reducible go_at_call 131); (with_reducible refine (servOk _ _).mono ?_); rintro e w' ⟨rfl, rfl⟩) | ((with_reducible go_at_call 157); (with_reducible refine (giverOk _ _).mono ?_); rintro e w' ⟨rfl, rfl⟩) | ((with_reducible go_at_call 136); (with_reducible refine (madeOk _ _).mono ?_); rintro e w' ⟨rfl, rfl⟩) | ((with_reducible go_at_call 63); (with_reducible refine (timeOk _ _).mono ?_); rintro e w' ⟨rfl, rfl⟩) | ((with_reducible go_at_call 137); (with_reducible refine (numberOk _ _).mono ?_); rintro e w' ⟨rfl, rfl⟩) | ((with_reducible go_at_call 127); (with_reducible refine (l11Cache A1 c1 k.cache _ ⟨v1.out.bel (by repeat (first | with_reducible exact Below.refl _ _ | with_reducible refine bset ?_ (by omega) _ _ | with_reducible refine balloc ?_ _ | with_reducible refine bdrew ?_ | with_reducible refine bdrewN ?_ _ | refine bstep ?_ (by assumption)))⟩ k1).mono ?_); rintro e w1 ⟨rfl, hb1⟩))
    go_ret
    exact ⟨by rw [HS.out]; rfl, by repeat (first | with_reducible exact Below.refl _ _ | with_reducible refine bset ?_ (by omega) _ _ | with_reducible refine balloc ?_ _ | with_reducible refine bdrew ?_ | with_reducible refine bdrewN ?_ _ | refine bstep ?_ (by assumption))⟩
theorem implKdcOk (k : Kc) (A1 : Option Addr) (c1 : Nat) (w : World) (v1 : Asd (View w A1 k.cache.length (sls k.cache))) (k1 : k.cache.length ≤ c1) :
    Calls Try.prog 74 #[kcV k A1 c1] w fun e w' => e = .returned (.bool (kcB k)) ∧ Below w.heap.size w w' := by
  cases h1 : inB k.next 10 61
  · have HS := Asd.mk (show kcB k = false by rw [kcB, h1]; rfl)
    go_enter Try.func74, Try.ntmps74
    go_wp2_with (first | ((with_reducible go_at_call 79); (with_reducible refine (l6In _ _ _ _).mono ?_); rintro e w' ⟨rfl, rfl⟩) | ((with_reducible go_at_call 149); (with_reducible refine (l1User _ _).mono ?_); rintro e w' ⟨rfl, rfl⟩) | ((with_reducible go_at_call 126); (with_reducible refine (l1Serv _ _).mono ?_); rintro e w' ⟨rfl, rfl⟩) | ((with_reducible go_at_call 151); (with_reducible refine (l1Session _ _).mono ?_); rintro e w' ⟨rfl, rfl⟩) | ((with_reducible go_at_call 58); (with_reducible refine (l1Time _ _).mono ?_); rintro e w' ⟨rfl, rfl⟩) | ((with_reducible go_at_call 170); (with_reducible refine (l1Num _ _).mono ?_); rintro e w' ⟨rfl, rfl⟩) | ((with_reducible go_at_call 83); (with_reducible refine (within _ _ _ _).mono ?_); rintro e w' ⟨rfl, rfl⟩) | ((with_reducible go_at_call 135); (with_reducible refine (userOk _ _).mono ?_); rintro e w' ⟨rfl, rfl⟩) | ((with_reducible go_at_call 131); (with_reducible refine (servOk _ _).mono ?_); rintro e w' ⟨rfl, rfl⟩) | ((with_reducible go_at_call 157); (with_reducible refine (giverOk _ _).mono ?_); rintro e w' ⟨rfl, rfl⟩) | ((with_reducible go_at_call 136); (with_reducible refine (madeOk _ _).mono ?_); rintro e w' ⟨rfl, rfl⟩) | ((with_reducible go_at_call 63); (with_reducible refine (timeOk _ _).mono ?_); rintro e w' ⟨rfl, rfl⟩) | ((with_reducible go_at_call 137); (with_reducible refine (numberOk _ _).mono ?_); rintro e w' ⟨rfl, rfl⟩) | ((with_reducible go_at_call 132); (with_reducible refine (cacheOk A1 c1 k.cache _ ⟨v1.out.bel (by repeat (first | with_reducible exact Below.refl _ _ | with_reducible refine bset ?_ (by omega) _ _ | with_reducible refine balloc ?_ _ | with_reducible refine bdrew ?_ | with_reducible refine bdrewN ?_ _ | refine bstep ?_ (by assumption)))⟩ k1).mono ?_); rintro e w1 ⟨rfl, hb1⟩))
    go_ret
    exact ⟨by rw [HS.out]; rfl, by repeat (first | with_reducible exact Below.refl _ _ | with_reducible refine bset ?_ (by omega) _ _ | with_reducible refine balloc ?_ _ | with_reducible refine bdrew ?_ | with_reducible refine bdrewN ?_ _ | refine bstep ?_ (by assumption))⟩
  · have HS := Asd.mk (show kcB k = cacheB k.cache by rw [kcB, h1]; rfl)
    go_enter Try.func74, Try.ntmps74
    go_wp2_with (first | ((with_reducible go_at_call 79); (with_reducible refine (l6In _ _ _ _).mono ?_); rintro e w' ⟨rfl, rfl⟩) | ((with_reducible go_at_call 149); (with_reducible refine (l1User _ _).mono ?_); rintro e w' ⟨rfl, rfl⟩) | ((with_reducible go_at_call 126); (with_reducible refine (l1Serv _ _).mono ?_); rintro e w' ⟨rfl, rfl⟩) | ((with_reducible go_at_call 151); (with_reducible refine (l1Session _ _).mono ?_); rintro e w' ⟨rfl, rfl⟩) | ((with_reducible go_at_call 58); (with_reducible refine (l1Time _ _).mono ?_); rintro e w' ⟨rfl, rfl⟩) | ((with_reducible go_at_call 170); (with_reducible refine (l1Num _ _).mono ?_); rintro e w' ⟨rfl, rfl⟩) | ((with_reducible go_at_call 83); (with_reducible refine (within _ _ _ _).mono ?_); rintro e w' ⟨rfl, rfl⟩) | ((with_reducible go_at_call 135); (with_reducible refine (userOk _ _).mono ?_); rintro e w' ⟨rfl, rfl⟩) | ((with_reducible go_at_call 131); (with_reducible refine (servOk _ _).mono ?_); rintro e w' ⟨rfl, rfl⟩) | ((with_reducible go_at_call 157); (with_reducible refine (giverOk _ _).mono ?_); rintro e w' ⟨rfl, rfl⟩) | ((with_reducible go_at_call 136); (with_reducible refine (madeOk _ _).mono ?_); rintro e w' ⟨rfl, rfl⟩) | ((with_reducible go_at_call 63); (with_reducible refine (timeOk _ _).mono ?_); rintro e w' ⟨rfl, rfl⟩) | ((with_reducible go_at_call 137); (with_reducible refine (numberOk _ _).mono ?_); rintro e w' ⟨rfl, rfl⟩) | ((with_reducible go_at_call 132); (with_reducible refine (cacheOk A1 c1 k.cache _ ⟨v1.out.bel (by repeat (first | with_reducible exact Below.refl _ _ | with_reducible refine bset ?_ (by omega) _ _ | with_reducible refine balloc ?_ _ | with_reducible refine bdrew ?_ | with_reducible refine bdrewN ?_ _ | refine bstep ?_ (by assumption)))⟩ k1).mono ?_); rintro e w1 ⟨rfl, hb1⟩))
    go_ret
    exact ⟨by rw [HS.out]; rfl, by repeat (first | with_reducible exact Below.refl _ _ | with_reducible refine bset ?_ (by omega) _ _ | with_reducible refine balloc ?_ _ | with_reducible refine bdrew ?_ | with_reducible refine bdrewN ?_ _ | refine bstep ?_ (by assumption))⟩
end Go.Proofs.Ytdogjfaidboggaa
