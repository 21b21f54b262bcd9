/- Each Go function that the statements reach, as a plain Lean function, and a proof that the call comes to what it says. -/
import Derived.Test.YtdlmkdgcdbkeaaaZ0
import Derived.Test.YtdlmkdgcdbkeaaaZ1
import Derived.Test.YtdlmkdgcdbkeaaaZ2
import Derived.Test.YtdlmkdgcdbkeaaaZ3
import Derived.Test.YtdlmkdgcdbkeaaaZ5
import Derived.Test.YtdlmkdgcdbkeaaaZ7
import Derived.Test.YtdlmkdgcdbkeaaaZ8
import Derived.Test.YtdlmkdgcdbkeaaaZ10
namespace Go.Proofs.Ytdlmkdgcdbkeaaa.Z
open Go.RowKit Go.Proofs.YtdlmkdgcdbkeaaaW.PrintWords Go.Proofs.YtdlmkdgcdbkeaaaW.PrintLast Go.Proofs.YtdlmkdgcdbkeaaaW.PrintMore
attribute [local go_sem] max2_int min2_int max_two min_two max_three min_three max_four min_four   -- for this text's walks alone
attribute [local go_sem] Go.Proofs.Ytdlmkdgcdbkeaaa.Str.gtr_str Go.Proofs.Ytdlmkdgcdbkeaaa.Str.leq_str Go.Proofs.Ytdlmkdgcdbkeaaa.Str.geq_str
set_option linter.unusedVariables false
set_option linter.unusedSimpArgs false

/-! ### conductorlaw01_PackBack: function 6 -/
mutual
def conductorlaw01_PackBack.j0 : Nat → List Int → List Int → List ByteArray → Bool → Option (Bool)
  | 0, _, _, _, _ => none
  | k + 1, x0, x1, x2, x37 => if x37 = true then ((conductorlaw01_live.f k).bind fun t283 => (some t283)) else (conductorlaw01_PackBack.l0 k x0 x1 x2 ([] : List Int) x0 (x0.length : Int) 0)
def conductorlaw01_PackBack.l0 : Nat → List Int → List Int → List ByteArray → List Int → List Int → Int → Int → Option (Bool)
  | 0, _, _, _, _, _, _, _ => none
  | k + 1, x0, x1, x2, x7, x39, x40, x41 => if x41 < x40 then (if 0 ≤ x41 then (if x41 < (x39.length : Int) then ((pack_Uint.f k (rd x39 x41)).bind fun t285 => ((pack_Join.f k (([x7, t285] : List (List Int)))).bind fun t291 => (conductorlaw01_PackBack.l0 k x0 x1 x2 t291 x39 x40 (wrap64 (x41 + 1))))) else (none)) else (none)) else (conductorlaw01_PackBack.l1 k x0 x1 x2 x7 x1 (x1.length : Int) 0)
def conductorlaw01_PackBack.l1 : Nat → List Int → List Int → List ByteArray → List Int → List Int → Int → Int → Option (Bool)
  | 0, _, _, _, _, _, _, _ => none
  | k + 1, x0, x1, x2, x7, x51, x52, x53 => if x53 < x52 then (if 0 ≤ x53 then (if x53 < (x51.length : Int) then ((pack_Int.f k (rd x51 x53)).bind fun t295 => ((pack_Join.f k (([x7, t295] : List (List Int)))).bind fun t301 => (conductorlaw01_PackBack.l1 k x0 x1 x2 t301 x51 x52 (wrap64 (x53 + 1))))) else (none)) else (none)) else (conductorlaw01_PackBack.l2 k x0 x1 x2 x7 x2 (x2.length : Int) 0)
def conductorlaw01_PackBack.l2 : Nat → List Int → List Int → List ByteArray → List Int → List ByteArray → Int → Int → Option (Bool)
  | 0, _, _, _, _, _, _, _ => none
  | k + 1, x0, x1, x2, x7, x63, x64, x65 => if x65 < x64 then (if 0 ≤ x65 then (if x65 < (x63.length : Int) then (if ((rdOf ByteArray.empty x63 x65).size : Int) > 1000 then (some true) else ((pack_Text.f k (rdOf ByteArray.empty x63 x65)).bind fun t305 => ((pack_Join.f k (([x7, t305] : List (List Int)))).bind fun t311 => (conductorlaw01_PackBack.l2 k x0 x1 x2 t311 x63 x64 (wrap64 (x65 + 1)))))) else (none)) else (none)) else ((pack_Read.f k x7).bind fun bt314 => (conductorlaw01_PackBack.l3 k x1 x2 x0 (x0.length : Int) 0 bt314.1 bt314.2.1 bt314.2.2.1 bt314.2.2.2))
def conductorlaw01_PackBack.l3 : Nat → List Int → List ByteArray → List Int → Int → Int → Bool → List Int → Int → Int → Option (Bool)
  | 0, _, _, _, _, _, _, _, _, _ => none
  | k + 1, x1, x2, x80, x81, x82, x319000, x319001, x319002, x319003 => if x82 < x81 then (if 0 ≤ x82 then (if x82 < (x80.length : Int) then ((pack_Reader_Uint.f k x319000 x319001 x319002 x319003 (rd x80 x82)).bind fun bt320 => (if bt320.1 = (rd x80 x82) then (conductorlaw01_PackBack.l3 k x1 x2 x80 x81 (wrap64 (x82 + 1)) bt320.2.1 x319001 bt320.2.2.1 bt320.2.2.2) else (some false))) else (none)) else (none)) else (conductorlaw01_PackBack.l4 k x2 x1 (x1.length : Int) 0 x319000 x319001 x319002 x319003)
def conductorlaw01_PackBack.l4 : Nat → List ByteArray → List Int → Int → Int → Bool → List Int → Int → Int → Option (Bool)
  | 0, _, _, _, _, _, _, _, _ => none
  | k + 1, x2, x92, x93, x94, x319000, x319001, x319002, x319003 => if x94 < x93 then (if 0 ≤ x94 then (if x94 < (x92.length : Int) then ((pack_Reader_Int.f k x319000 x319001 x319002 x319003).bind fun bt325 => (if bt325.1 = (rd x92 x94) then (conductorlaw01_PackBack.l4 k x2 x92 x93 (wrap64 (x94 + 1)) bt325.2.1 x319001 bt325.2.2.1 bt325.2.2.2) else (some false))) else (none)) else (none)) else (conductorlaw01_PackBack.l5 k x2 (x2.length : Int) 0 x319000 x319001 x319002 x319003)
def conductorlaw01_PackBack.l5 : Nat → List ByteArray → Int → Int → Bool → List Int → Int → Int → Option (Bool)
  | 0, _, _, _, _, _, _, _ => none
  | k + 1, x103, x104, x105, x319000, x319001, x319002, x319003 => if x105 < x104 then (if 0 ≤ x105 then (if x105 < (x103.length : Int) then ((pack_Reader_Text.f k x319000 x319001 x319002 x319003 ((rdOf ByteArray.empty x103 x105).size : Int)).bind fun bt330 => (if bt330.1.toList = (rdOf ByteArray.empty x103 x105).toList then (conductorlaw01_PackBack.l5 k x103 x104 (wrap64 (x105 + 1)) bt330.2.1 x319001 bt330.2.2.1 bt330.2.2.2) else (some false))) else (none)) else (none)) else ((pack_Reader_End.f x319000 x319001 x319002 x319003).bind fun bt334 => (if bt334.1 = 0 then ((pack_Reader_Left.f bt334.2.1 x319001 bt334.2.2.1 bt334.2.2.2).bind fun bt338 => (some (bt338.1 == 0))) else (some false)))
end
def conductorlaw01_PackBack.f (k : Nat) (l0 : List Int) (l1 : List Int) (l2 : List ByteArray) : Option (Bool) := (conductorlaw01_live.f k).bind fun t282 => (if t282 = true then (if (l0.length : Int) > 200 then (conductorlaw01_PackBack.j0 k l0 l1 l2 true) else (if (l1.length : Int) > 200 then (conductorlaw01_PackBack.j0 k l0 l1 l2 true) else (conductorlaw01_PackBack.j0 k l0 l1 l2 (decide ((l2.length : Int) > 200))))) else (conductorlaw01_PackBack.j0 k l0 l1 l2 true))
theorem conductorlaw01_PackBack.mono_l : ∀ k, (∀ y0 y1 y2 y3, LeO (conductorlaw01_PackBack.j0 k y0 y1 y2 y3) (conductorlaw01_PackBack.j0 (k + 1) y0 y1 y2 y3)) ∧ (∀ y0 y1 y2 y3 y4 y5 y6, LeO (conductorlaw01_PackBack.l0 k y0 y1 y2 y3 y4 y5 y6) (conductorlaw01_PackBack.l0 (k + 1) y0 y1 y2 y3 y4 y5 y6)) ∧ (∀ y0 y1 y2 y3 y4 y5 y6, LeO (conductorlaw01_PackBack.l1 k y0 y1 y2 y3 y4 y5 y6) (conductorlaw01_PackBack.l1 (k + 1) y0 y1 y2 y3 y4 y5 y6)) ∧ (∀ y0 y1 y2 y3 y4 y5 y6, LeO (conductorlaw01_PackBack.l2 k y0 y1 y2 y3 y4 y5 y6) (conductorlaw01_PackBack.l2 (k + 1) y0 y1 y2 y3 y4 y5 y6)) ∧ (∀ y0 y1 y2 y3 y4 y5 y6 y7 y8, LeO (conductorlaw01_PackBack.l3 k y0 y1 y2 y3 y4 y5 y6 y7 y8) (conductorlaw01_PackBack.l3 (k + 1) y0 y1 y2 y3 y4 y5 y6 y7 y8)) ∧ (∀ y0 y1 y2 y3 y4 y5 y6 y7, LeO (conductorlaw01_PackBack.l4 k y0 y1 y2 y3 y4 y5 y6 y7) (conductorlaw01_PackBack.l4 (k + 1) y0 y1 y2 y3 y4 y5 y6 y7)) ∧ (∀ y0 y1 y2 y3 y4 y5 y6, LeO (conductorlaw01_PackBack.l5 k y0 y1 y2 y3 y4 y5 y6) (conductorlaw01_PackBack.l5 (k + 1) y0 y1 y2 y3 y4 y5 y6))
  | 0 => ⟨fun _ _ _ _ r h => by simp [conductorlaw01_PackBack.j0] at h, fun _ _ _ _ _ _ _ r h => by simp [conductorlaw01_PackBack.l0] at h, fun _ _ _ _ _ _ _ r h => by simp [conductorlaw01_PackBack.l1] at h, fun _ _ _ _ _ _ _ r h => by simp [conductorlaw01_PackBack.l2] at h, fun _ _ _ _ _ _ _ _ _ r h => by simp [conductorlaw01_PackBack.l3] at h, fun _ _ _ _ _ _ _ _ r h => by simp [conductorlaw01_PackBack.l4] at h, fun _ _ _ _ _ _ _ r h => by simp [conductorlaw01_PackBack.l5] at h⟩
  | k + 1 => by
    obtain ⟨ih0, ih1, ih2, ih3, ih4, ih5, ih6⟩ := conductorlaw01_PackBack.mono_l k
    refine ⟨?_, ?_, ?_, ?_, ?_, ?_, ?_⟩
    · intro y0 y1 y2 y3
      unfold conductorlaw01_PackBack.j0
      repeat' first
      | (with_reducible exact ih0 _ _ _ _)
      | (with_reducible exact ih1 _ _ _ _ _ _ _)
      | (with_reducible exact ih2 _ _ _ _ _ _ _)
      | (with_reducible exact ih3 _ _ _ _ _ _ _)
      | (with_reducible exact ih4 _ _ _ _ _ _ _ _ _)
      | (with_reducible exact ih5 _ _ _ _ _ _ _ _)
      | (with_reducible exact ih6 _ _ _ _ _ _ _)
      | (with_reducible exact conductorlaw01_live.mono _)
      | (with_reducible exact pack_Int.mono _ _)
      | (with_reducible exact pack_Join.mono _ _)
      | (with_reducible exact pack_Read.mono _ _)
      | (with_reducible exact pack_Reader_Int.mono _ _ _ _ _)
      | (with_reducible exact pack_Reader_Text.mono _ _ _ _ _ _)
      | (with_reducible exact pack_Reader_Uint.mono _ _ _ _ _ _)
      | (with_reducible exact pack_Text.mono _ _)
      | (with_reducible exact pack_Uint.mono _ _)
      | (with_reducible exact LeO.refl _)
      | (with_reducible exact LeO.none _)
      | (with_reducible refine LeO.ite ?_ ?_)
      | (with_reducible refine LeO.bind ?_ (fun _ => ?_))
      | exact ih0 _ _ _ _
      | exact ih1 _ _ _ _ _ _ _
      | exact ih2 _ _ _ _ _ _ _
      | exact ih3 _ _ _ _ _ _ _
      | exact ih4 _ _ _ _ _ _ _ _ _
      | exact ih5 _ _ _ _ _ _ _ _
      | exact ih6 _ _ _ _ _ _ _
      | exact conductorlaw01_live.mono _
      | exact pack_Int.mono _ _
      | exact pack_Join.mono _ _
      | exact pack_Read.mono _ _
      | exact pack_Reader_Int.mono _ _ _ _ _
      | exact pack_Reader_Text.mono _ _ _ _ _ _
      | exact pack_Reader_Uint.mono _ _ _ _ _ _
      | exact pack_Text.mono _ _
      | exact pack_Uint.mono _ _
      | exact LeO.none _
      | refine LeO.ite ?_ ?_
      | refine LeO.bind ?_ (fun _ => ?_)
    · intro y0 y1 y2 y3 y4 y5 y6
      unfold conductorlaw01_PackBack.l0
      repeat' first
      | (with_reducible exact ih0 _ _ _ _)
      | (with_reducible exact ih1 _ _ _ _ _ _ _)
      | (with_reducible exact ih2 _ _ _ _ _ _ _)
      | (with_reducible exact ih3 _ _ _ _ _ _ _)
      | (with_reducible exact ih4 _ _ _ _ _ _ _ _ _)
      | (with_reducible exact ih5 _ _ _ _ _ _ _ _)
      | (with_reducible exact ih6 _ _ _ _ _ _ _)
      | (with_reducible exact conductorlaw01_live.mono _)
      | (with_reducible exact pack_Int.mono _ _)
      | (with_reducible exact pack_Join.mono _ _)
      | (with_reducible exact pack_Read.mono _ _)
      | (with_reducible exact pack_Reader_Int.mono _ _ _ _ _)
      | (with_reducible exact pack_Reader_Text.mono _ _ _ _ _ _)
      | (with_reducible exact pack_Reader_Uint.mono _ _ _ _ _ _)
      | (with_reducible exact pack_Text.mono _ _)
      | (with_reducible exact pack_Uint.mono _ _)
      | (with_reducible exact LeO.refl _)
      | (with_reducible exact LeO.none _)
      | (with_reducible refine LeO.ite ?_ ?_)
      | (with_reducible refine LeO.bind ?_ (fun _ => ?_))
      | exact ih0 _ _ _ _
      | exact ih1 _ _ _ _ _ _ _
      | exact ih2 _ _ _ _ _ _ _
      | exact ih3 _ _ _ _ _ _ _
      | exact ih4 _ _ _ _ _ _ _ _ _
      | exact ih5 _ _ _ _ _ _ _ _
      | exact ih6 _ _ _ _ _ _ _
      | exact conductorlaw01_live.mono _
      | exact pack_Int.mono _ _
      | exact pack_Join.mono _ _
      | exact pack_Read.mono _ _
      | exact pack_Reader_Int.mono _ _ _ _ _
      | exact pack_Reader_Text.mono _ _ _ _ _ _
      | exact pack_Reader_Uint.mono _ _ _ _ _ _
      | exact pack_Text.mono _ _
      | exact pack_Uint.mono _ _
      | exact LeO.none _
      | refine LeO.ite ?_ ?_
      | refine LeO.bind ?_ (fun _ => ?_)
    · intro y0 y1 y2 y3 y4 y5 y6
      unfold conductorlaw01_PackBack.l1
      repeat' first
      | (with_reducible exact ih0 _ _ _ _)
      | (with_reducible exact ih1 _ _ _ _ _ _ _)
      | (with_reducible exact ih2 _ _ _ _ _ _ _)
      | (with_reducible exact ih3 _ _ _ _ _ _ _)
      | (with_reducible exact ih4 _ _ _ _ _ _ _ _ _)
      | (with_reducible exact ih5 _ _ _ _ _ _ _ _)
      | (with_reducible exact ih6 _ _ _ _ _ _ _)
      | (with_reducible exact conductorlaw01_live.mono _)
      | (with_reducible exact pack_Int.mono _ _)
      | (with_reducible exact pack_Join.mono _ _)
      | (with_reducible exact pack_Read.mono _ _)
      | (with_reducible exact pack_Reader_Int.mono _ _ _ _ _)
      | (with_reducible exact pack_Reader_Text.mono _ _ _ _ _ _)
      | (with_reducible exact pack_Reader_Uint.mono _ _ _ _ _ _)
      | (with_reducible exact pack_Text.mono _ _)
      | (with_reducible exact pack_Uint.mono _ _)
      | (with_reducible exact LeO.refl _)
      | (with_reducible exact LeO.none _)
      | (with_reducible refine LeO.ite ?_ ?_)
      | (with_reducible refine LeO.bind ?_ (fun _ => ?_))
      | exact ih0 _ _ _ _
      | exact ih1 _ _ _ _ _ _ _
      | exact ih2 _ _ _ _ _ _ _
      | exact ih3 _ _ _ _ _ _ _
      | exact ih4 _ _ _ _ _ _ _ _ _
      | exact ih5 _ _ _ _ _ _ _ _
      | exact ih6 _ _ _ _ _ _ _
      | exact conductorlaw01_live.mono _
      | exact pack_Int.mono _ _
      | exact pack_Join.mono _ _
      | exact pack_Read.mono _ _
      | exact pack_Reader_Int.mono _ _ _ _ _
      | exact pack_Reader_Text.mono _ _ _ _ _ _
      | exact pack_Reader_Uint.mono _ _ _ _ _ _
      | exact pack_Text.mono _ _
      | exact pack_Uint.mono _ _
      | exact LeO.none _
      | refine LeO.ite ?_ ?_
      | refine LeO.bind ?_ (fun _ => ?_)
    · intro y0 y1 y2 y3 y4 y5 y6
      unfold conductorlaw01_PackBack.l2
      repeat' first
      | (with_reducible exact ih0 _ _ _ _)
      | (with_reducible exact ih1 _ _ _ _ _ _ _)
      | (with_reducible exact ih2 _ _ _ _ _ _ _)
      | (with_reducible exact ih3 _ _ _ _ _ _ _)
      | (with_reducible exact ih4 _ _ _ _ _ _ _ _ _)
      | (with_reducible exact ih5 _ _ _ _ _ _ _ _)
      | (with_reducible exact ih6 _ _ _ _ _ _ _)
      | (with_reducible exact conductorlaw01_live.mono _)
      | (with_reducible exact pack_Int.mono _ _)
      | (with_reducible exact pack_Join.mono _ _)
      | (with_reducible exact pack_Read.mono _ _)
      | (with_reducible exact pack_Reader_Int.mono _ _ _ _ _)
      | (with_reducible exact pack_Reader_Text.mono _ _ _ _ _ _)
      | (with_reducible exact pack_Reader_Uint.mono _ _ _ _ _ _)
      | (with_reducible exact pack_Text.mono _ _)
      | (with_reducible exact pack_Uint.mono _ _)
      | (with_reducible exact LeO.refl _)
      | (with_reducible exact LeO.none _)
      | (with_reducible refine LeO.ite ?_ ?_)
      | (with_reducible refine LeO.bind ?_ (fun _ => ?_))
      | exact ih0 _ _ _ _
      | exact ih1 _ _ _ _ _ _ _
      | exact ih2 _ _ _ _ _ _ _
      | exact ih3 _ _ _ _ _ _ _
      | exact ih4 _ _ _ _ _ _ _ _ _
      | exact ih5 _ _ _ _ _ _ _ _
      | exact ih6 _ _ _ _ _ _ _
      | exact conductorlaw01_live.mono _
      | exact pack_Int.mono _ _
      | exact pack_Join.mono _ _
      | exact pack_Read.mono _ _
      | exact pack_Reader_Int.mono _ _ _ _ _
      | exact pack_Reader_Text.mono _ _ _ _ _ _
      | exact pack_Reader_Uint.mono _ _ _ _ _ _
      | exact pack_Text.mono _ _
      | exact pack_Uint.mono _ _
      | exact LeO.none _
      | refine LeO.ite ?_ ?_
      | refine LeO.bind ?_ (fun _ => ?_)
    · intro y0 y1 y2 y3 y4 y5 y6 y7 y8
      unfold conductorlaw01_PackBack.l3
      repeat' first
      | (with_reducible exact ih0 _ _ _ _)
      | (with_reducible exact ih1 _ _ _ _ _ _ _)
      | (with_reducible exact ih2 _ _ _ _ _ _ _)
      | (with_reducible exact ih3 _ _ _ _ _ _ _)
      | (with_reducible exact ih4 _ _ _ _ _ _ _ _ _)
      | (with_reducible exact ih5 _ _ _ _ _ _ _ _)
      | (with_reducible exact ih6 _ _ _ _ _ _ _)
      | (with_reducible exact conductorlaw01_live.mono _)
      | (with_reducible exact pack_Int.mono _ _)
      | (with_reducible exact pack_Join.mono _ _)
      | (with_reducible exact pack_Read.mono _ _)
      | (with_reducible exact pack_Reader_Int.mono _ _ _ _ _)
      | (with_reducible exact pack_Reader_Text.mono _ _ _ _ _ _)
      | (with_reducible exact pack_Reader_Uint.mono _ _ _ _ _ _)
      | (with_reducible exact pack_Text.mono _ _)
      | (with_reducible exact pack_Uint.mono _ _)
      | (with_reducible exact LeO.refl _)
      | (with_reducible exact LeO.none _)
      | (with_reducible refine LeO.ite ?_ ?_)
      | (with_reducible refine LeO.bind ?_ (fun _ => ?_))
      | exact ih0 _ _ _ _
      | exact ih1 _ _ _ _ _ _ _
      | exact ih2 _ _ _ _ _ _ _
      | exact ih3 _ _ _ _ _ _ _
      | exact ih4 _ _ _ _ _ _ _ _ _
      | exact ih5 _ _ _ _ _ _ _ _
      | exact ih6 _ _ _ _ _ _ _
      | exact conductorlaw01_live.mono _
      | exact pack_Int.mono _ _
      | exact pack_Join.mono _ _
      | exact pack_Read.mono _ _
      | exact pack_Reader_Int.mono _ _ _ _ _
      | exact pack_Reader_Text.mono _ _ _ _ _ _
      | exact pack_Reader_Uint.mono _ _ _ _ _ _
      | exact pack_Text.mono _ _
      | exact pack_Uint.mono _ _
      | exact LeO.none _
      | refine LeO.ite ?_ ?_
      | refine LeO.bind ?_ (fun _ => ?_)
    · intro y0 y1 y2 y3 y4 y5 y6 y7
      unfold conductorlaw01_PackBack.l4
      repeat' first
      | (with_reducible exact ih0 _ _ _ _)
      | (with_reducible exact ih1 _ _ _ _ _ _ _)
      | (with_reducible exact ih2 _ _ _ _ _ _ _)
      | (with_reducible exact ih3 _ _ _ _ _ _ _)
      | (with_reducible exact ih4 _ _ _ _ _ _ _ _ _)
      | (with_reducible exact ih5 _ _ _ _ _ _ _ _)
      | (with_reducible exact ih6 _ _ _ _ _ _ _)
      | (with_reducible exact conductorlaw01_live.mono _)
      | (with_reducible exact pack_Int.mono _ _)
      | (with_reducible exact pack_Join.mono _ _)
      | (with_reducible exact pack_Read.mono _ _)
      | (with_reducible exact pack_Reader_Int.mono _ _ _ _ _)
      | (with_reducible exact pack_Reader_Text.mono _ _ _ _ _ _)
      | (with_reducible exact pack_Reader_Uint.mono _ _ _ _ _ _)
      | (with_reducible exact pack_Text.mono _ _)
      | (with_reducible exact pack_Uint.mono _ _)
      | (with_reducible exact LeO.refl _)
      | (with_reducible exact LeO.none _)
      | (with_reducible refine LeO.ite ?_ ?_)
      | (with_reducible refine LeO.bind ?_ (fun _ => ?_))
      | exact ih0 _ _ _ _
      | exact ih1 _ _ _ _ _ _ _
      | exact ih2 _ _ _ _ _ _ _
      | exact ih3 _ _ _ _ _ _ _
      | exact ih4 _ _ _ _ _ _ _ _ _
      | exact ih5 _ _ _ _ _ _ _ _
      | exact ih6 _ _ _ _ _ _ _
      | exact conductorlaw01_live.mono _
      | exact pack_Int.mono _ _
      | exact pack_Join.mono _ _
      | exact pack_Read.mono _ _
      | exact pack_Reader_Int.mono _ _ _ _ _
      | exact pack_Reader_Text.mono _ _ _ _ _ _
      | exact pack_Reader_Uint.mono _ _ _ _ _ _
      | exact pack_Text.mono _ _
      | exact pack_Uint.mono _ _
      | exact LeO.none _
      | refine LeO.ite ?_ ?_
      | refine LeO.bind ?_ (fun _ => ?_)
    · intro y0 y1 y2 y3 y4 y5 y6
      unfold conductorlaw01_PackBack.l5
      repeat' first
      | (with_reducible exact ih0 _ _ _ _)
      | (with_reducible exact ih1 _ _ _ _ _ _ _)
      | (with_reducible exact ih2 _ _ _ _ _ _ _)
      | (with_reducible exact ih3 _ _ _ _ _ _ _)
      | (with_reducible exact ih4 _ _ _ _ _ _ _ _ _)
      | (with_reducible exact ih5 _ _ _ _ _ _ _ _)
      | (with_reducible exact ih6 _ _ _ _ _ _ _)
      | (with_reducible exact conductorlaw01_live.mono _)
      | (with_reducible exact pack_Int.mono _ _)
      | (with_reducible exact pack_Join.mono _ _)
      | (with_reducible exact pack_Read.mono _ _)
      | (with_reducible exact pack_Reader_Int.mono _ _ _ _ _)
      | (with_reducible exact pack_Reader_Text.mono _ _ _ _ _ _)
      | (with_reducible exact pack_Reader_Uint.mono _ _ _ _ _ _)
      | (with_reducible exact pack_Text.mono _ _)
      | (with_reducible exact pack_Uint.mono _ _)
      | (with_reducible exact LeO.refl _)
      | (with_reducible exact LeO.none _)
      | (with_reducible refine LeO.ite ?_ ?_)
      | (with_reducible refine LeO.bind ?_ (fun _ => ?_))
      | exact ih0 _ _ _ _
      | exact ih1 _ _ _ _ _ _ _
      | exact ih2 _ _ _ _ _ _ _
      | exact ih3 _ _ _ _ _ _ _
      | exact ih4 _ _ _ _ _ _ _ _ _
      | exact ih5 _ _ _ _ _ _ _ _
      | exact ih6 _ _ _ _ _ _ _
      | exact conductorlaw01_live.mono _
      | exact pack_Int.mono _ _
      | exact pack_Join.mono _ _
      | exact pack_Read.mono _ _
      | exact pack_Reader_Int.mono _ _ _ _ _
      | exact pack_Reader_Text.mono _ _ _ _ _ _
      | exact pack_Reader_Uint.mono _ _ _ _ _ _
      | exact pack_Text.mono _ _
      | exact pack_Uint.mono _ _
      | exact LeO.none _
      | refine LeO.ite ?_ ?_
      | refine LeO.bind ?_ (fun _ => ?_)
theorem conductorlaw01_PackBack.mono : ∀ a0 a1 a2 k, LeO (conductorlaw01_PackBack.f k a0 a1 a2) (conductorlaw01_PackBack.f (k + 1) a0 a1 a2) := by
  intro a0 a1 a2 k
  obtain ⟨ih0, ih1, ih2, ih3, ih4, ih5, ih6⟩ := conductorlaw01_PackBack.mono_l k
  unfold conductorlaw01_PackBack.f
  repeat' first
      | (with_reducible exact ih0 _ _ _ _)
      | (with_reducible exact ih1 _ _ _ _ _ _ _)
      | (with_reducible exact ih2 _ _ _ _ _ _ _)
      | (with_reducible exact ih3 _ _ _ _ _ _ _)
      | (with_reducible exact ih4 _ _ _ _ _ _ _ _ _)
      | (with_reducible exact ih5 _ _ _ _ _ _ _ _)
      | (with_reducible exact ih6 _ _ _ _ _ _ _)
      | (with_reducible exact conductorlaw01_live.mono _)
      | (with_reducible exact pack_Int.mono _ _)
      | (with_reducible exact pack_Join.mono _ _)
      | (with_reducible exact pack_Read.mono _ _)
      | (with_reducible exact pack_Reader_Int.mono _ _ _ _ _)
      | (with_reducible exact pack_Reader_Text.mono _ _ _ _ _ _)
      | (with_reducible exact pack_Reader_Uint.mono _ _ _ _ _ _)
      | (with_reducible exact pack_Text.mono _ _)
      | (with_reducible exact pack_Uint.mono _ _)
      | (with_reducible exact LeO.refl _)
      | (with_reducible exact LeO.none _)
      | (with_reducible refine LeO.ite ?_ ?_)
      | (with_reducible refine LeO.bind ?_ (fun _ => ?_))
      | exact ih0 _ _ _ _
      | exact ih1 _ _ _ _ _ _ _
      | exact ih2 _ _ _ _ _ _ _
      | exact ih3 _ _ _ _ _ _ _
      | exact ih4 _ _ _ _ _ _ _ _ _
      | exact ih5 _ _ _ _ _ _ _ _
      | exact ih6 _ _ _ _ _ _ _
      | exact conductorlaw01_live.mono _
      | exact pack_Int.mono _ _
      | exact pack_Join.mono _ _
      | exact pack_Read.mono _ _
      | exact pack_Reader_Int.mono _ _ _ _ _
      | exact pack_Reader_Text.mono _ _ _ _ _ _
      | exact pack_Reader_Uint.mono _ _ _ _ _ _
      | exact pack_Text.mono _ _
      | exact pack_Uint.mono _ _
      | exact LeO.none _
      | refine LeO.ite ?_ ?_
      | refine LeO.bind ?_ (fun _ => ?_)
set_option maxHeartbeats 8000000 in
set_option maxRecDepth 100000 in
theorem conductorlaw01_PackBack.calls (k : Nat) (A0 : Option Addr) (c0 : Nat) (l0 : List Int) (A1 : Option Addr) (c1 : Nat) (l1 : List Int) (A2 : Option Addr) (c2 : Nat) (l2 : List ByteArray) (r : Bool) (w : World) (hr0 : Kd.C (Kd.int .u64) w A0 l0.length l0) (hc0 : l0.length ≤ c0) (hr1 : Kd.C (Kd.int .i64) w A1 l1.length l1) (hc1 : l1.length ≤ c1) (hr2 : Kd.C Kd.string w A2 l2.length l2) (hc2 : l2.length ≤ c2) (h : conductorlaw01_PackBack.f k l0 l1 l2 = some r) :
    Calls Try.prog 6 #[.slice A0 l0.length c0, .slice A1 l1.length c1, .slice A2 l2.length c2] w fun e w' => e = .returned (.bool r) ∧ Below w.heap.size w w' := by
  have HR0 := Aside0.mk hr0
  have HC0 := Aside0.mk hc0
  clear hr0 hc0
  have HR1 := Aside0.mk hr1
  have HC1 := Aside0.mk hc1
  clear hr1 hc1
  have HR2 := Aside0.mk hr2
  have HC2 := Aside0.mk hc2
  clear hr2 hc2
  have HB := Aside0.mk (Below.refl w.heap.size w)
  have H : ((conductorlaw01_live.f k).bind fun t282 => (if t282 = true then (if (l0.length : Int) > 200 then (conductorlaw01_PackBack.j0 k l0 l1 l2 true) else (if (l1.length : Int) > 200 then (conductorlaw01_PackBack.j0 k l0 l1 l2 true) else (conductorlaw01_PackBack.j0 k l0 l1 l2 (decide ((l2.length : Int) > 200))))) else (conductorlaw01_PackBack.j0 k l0 l1 l2 true))) = some r := h
  clear h
  have HC4 := Aside0.mk H
  clear H
  go_enter Try.func6, Try.ntmps6
  go_upto_region 1 with (fail)
  go_cut [37] (fun v37 wc => ∃ (kq : Nat) (x37_3 : Bool), v37 = .bool x37_3 ∧ Aside0 (conductorlaw01_PackBack.j0 kq l0 l1 l2 x37_3 = some r) ∧ Aside0 (kq ≤ k) ∧ Aside0 (Below w.heap.size w wc))
  case first =>
    have H := HC4.out
    clear HC4
    replace H := Option.bind_eq_some_iff.mp H
    obtain ⟨t282, A50, H⟩ := H
    replace H : (if t282 = true then (if (l0.length : Int) > 200 then (conductorlaw01_PackBack.j0 k l0 l1 l2 true) else (if (l1.length : Int) > 200 then (conductorlaw01_PackBack.j0 k l0 l1 l2 true) else (conductorlaw01_PackBack.j0 k l0 l1 l2 (decide ((l2.length : Int) > 200))))) else (conductorlaw01_PackBack.j0 k l0 l1 l2 true)) = some r := H
    have A5 := Aside0.mk A50
    clear A50
    by_cases c6 : t282 = true
    · subst c6
      have H1 : (if (l0.length : Int) > 200 then (conductorlaw01_PackBack.j0 k l0 l1 l2 true) else (if (l1.length : Int) > 200 then (conductorlaw01_PackBack.j0 k l0 l1 l2 true) else (conductorlaw01_PackBack.j0 k l0 l1 l2 (decide ((l2.length : Int) > 200))))) = some r := by rw [if_pos rfl] at H; exact H
      clear H
      have H := H1
      clear H1
      by_cases c7 : (l0.length : Int) > 200
      · rw [if_pos c7] at H
        have c7b0 : decide (200 < (l0.length : Int)) = true := decide_eq_true c7
        have c7b1 : decide (200 < l0.length) = true := decide_eq_true (by omega)
        clear c7
        (first | rw [c7b0] | (simp only [i64_w, i32_w]; rw [c7b0]) | skip)
        have H' := Aside0.mk H
        clear H
        go_wp2_with (first | ((with_reducible refine gate_callee (f := 10) rfl ?_); refine goesL_ (some 21) rfl rfl Try.func10 (by kernel_rfl) rfl #[] rfl (by (try simp only [List.map_toArray, List.map_cons, List.map_nil]); first | done | rfl | (simp only [List.length_drop, List.length_take]; rfl)) ?_; (with_reducible refine (conductorlaw01_live.calls k  true _ A5.out).mono ?_); rintro e w8 ⟨rfl, hb⟩; refine ⟨_, rfl, ?_⟩; have n0_ := Aside0.mk (below_step (by repeat (first | (with_reducible first | exact HB.out | apply below_alloc | apply pw_below_drewN | apply below_drew1) | exact HB.out)) hb); clear HB; have HB := n0_; clear n0_; (try clear hb); (try clear hb2); (try clear hk); (try clear hi)))
        go_meet
        case rel => exact ⟨_, (true), (by first | rfl | (simp; done) | (simp [*]; done) | (simp [Go.Proofs.Ytdlmkdgcdbkeaaa.Str.isE, Go.Proofs.Ytdlmkdgcdbkeaaa.Str.isE']; done)), H', ⟨by first | omega | exact Nat.le_refl _⟩, ⟨by repeat (first | (with_reducible first | exact HB.out | apply below_alloc | apply pw_below_drewN | apply below_drew1) | exact HB.out)⟩⟩
      · rw [if_neg c7] at H
        have c7b0 : decide (200 < (l0.length : Int)) = false := decide_eq_false c7
        have c7b1 : decide (200 < l0.length) = false := decide_eq_false (by omega)
        clear c7
        (first | rw [c7b0] | (simp only [i64_w, i32_w]; rw [c7b0]) | skip)
        by_cases c9 : (l1.length : Int) > 200
        · rw [if_pos c9] at H
          have c9b0 : decide (200 < (l1.length : Int)) = true := decide_eq_true c9
          have c9b1 : decide (200 < l1.length) = true := decide_eq_true (by omega)
          clear c9
          have H' := Aside0.mk H
          clear H
          go_wp2_with (first | ((with_reducible refine gate_callee (f := 10) rfl ?_); refine goesL_ (some 21) rfl rfl Try.func10 (by kernel_rfl) rfl #[] rfl (by (try simp only [List.map_toArray, List.map_cons, List.map_nil]); first | done | rfl | (simp only [List.length_drop, List.length_take]; rfl)) ?_; (with_reducible refine (conductorlaw01_live.calls k  true _ A5.out).mono ?_); rintro e w10 ⟨rfl, hb⟩; refine ⟨_, rfl, ?_⟩; have n0_ := Aside0.mk (below_step (by repeat (first | (with_reducible first | exact HB.out | apply below_alloc | apply pw_below_drewN | apply below_drew1) | exact HB.out)) hb); clear HB; have HB := n0_; clear n0_; (try clear hb); (try clear hb2); (try clear hk); (try clear hi)))
          go_meet
          case rel => exact ⟨_, (true), (by first | rfl | (simp; done) | (simp [*]; done) | (simp [Go.Proofs.Ytdlmkdgcdbkeaaa.Str.isE, Go.Proofs.Ytdlmkdgcdbkeaaa.Str.isE']; done)), H', ⟨by first | omega | exact Nat.le_refl _⟩, ⟨by repeat (first | (with_reducible first | exact HB.out | apply below_alloc | apply pw_below_drewN | apply below_drew1) | exact HB.out)⟩⟩
        · rw [if_neg c9] at H
          have c9b0 : decide (200 < (l1.length : Int)) = false := decide_eq_false c9
          have c9b1 : decide (200 < l1.length) = false := decide_eq_false (by omega)
          clear c9
          have H' := Aside0.mk H
          clear H
          go_wp2_with (first | ((with_reducible refine gate_callee (f := 10) rfl ?_); refine goesL_ (some 21) rfl rfl Try.func10 (by kernel_rfl) rfl #[] rfl (by (try simp only [List.map_toArray, List.map_cons, List.map_nil]); first | done | rfl | (simp only [List.length_drop, List.length_take]; rfl)) ?_; (with_reducible refine (conductorlaw01_live.calls k  true _ A5.out).mono ?_); rintro e w11 ⟨rfl, hb⟩; refine ⟨_, rfl, ?_⟩; have n0_ := Aside0.mk (below_step (by repeat (first | (with_reducible first | exact HB.out | apply below_alloc | apply pw_below_drewN | apply below_drew1) | exact HB.out)) hb); clear HB; have HB := n0_; clear n0_; (try clear hb); (try clear hb2); (try clear hk); (try clear hi)))
          go_meet
          case rel => exact ⟨_, (decide ((l2.length : Int) > 200)), (by first | rfl | (simp; done) | (simp [*]; done) | (simp [Go.Proofs.Ytdlmkdgcdbkeaaa.Str.isE, Go.Proofs.Ytdlmkdgcdbkeaaa.Str.isE']; done)), H', ⟨by first | omega | exact Nat.le_refl _⟩, ⟨by repeat (first | (with_reducible first | exact HB.out | apply below_alloc | apply pw_below_drewN | apply below_drew1) | exact HB.out)⟩⟩
    · replace c6 := Bool.eq_false_iff.mpr c6
      subst c6
      have H1 : (conductorlaw01_PackBack.j0 k l0 l1 l2 true) = some r := by rw [if_neg (show ¬ (false = true) by decide)] at H; exact H
      clear H
      have H := H1
      clear H1
      have H' := Aside0.mk H
      clear H
      go_wp2_with (first | ((with_reducible refine gate_callee (f := 10) rfl ?_); refine goesL_ (some 21) rfl rfl Try.func10 (by kernel_rfl) rfl #[] rfl (by (try simp only [List.map_toArray, List.map_cons, List.map_nil]); first | done | rfl | (simp only [List.length_drop, List.length_take]; rfl)) ?_; (with_reducible refine (conductorlaw01_live.calls k  false _ A5.out).mono ?_); rintro e w12 ⟨rfl, hb⟩; refine ⟨_, rfl, ?_⟩; have n0_ := Aside0.mk (below_step (by repeat (first | (with_reducible first | exact HB.out | apply below_alloc | apply pw_below_drewN | apply below_drew1) | exact HB.out)) hb); clear HB; have HB := n0_; clear n0_; (try clear hb); (try clear hb2); (try clear hk); (try clear hi)))
      go_meet
      case rel => exact ⟨_, (true), (by first | rfl | (simp; done) | (simp [*]; done) | (simp [Go.Proofs.Ytdlmkdgcdbkeaaa.Str.isE, Go.Proofs.Ytdlmkdgcdbkeaaa.Str.isE']; done)), H', ⟨by first | omega | exact Nat.le_refl _⟩, ⟨by repeat (first | (with_reducible first | exact HB.out | apply below_alloc | apply pw_below_drewN | apply below_drew1) | exact HB.out)⟩⟩
  case rest =>
    clear HC4
    try clear c1
    try clear c2
    try clear p2
    try clear c6
    try clear c7
    try clear c7b0
    try clear c7b1
    try clear c9
    try clear c9b0
    try clear c9b1
    try clear c10
    obtain ⟨kq, x37_3, rfl, HA, HJ3, HB⟩ := hcut
    cases kq with
    | zero => exact absurd HA.out (by simp [conductorlaw01_PackBack.j0])
    | succ kj3 =>
      have H := HA.out
      clear HA
      simp only [conductorlaw01_PackBack.j0] at H
      by_cases c13 : x37_3 = true
      · subst c13
        have H1 : ((conductorlaw01_live.f kj3).bind fun t283 => (some t283)) = some r := by rw [if_pos rfl] at H; exact H
        clear H
        have H := H1
        clear H1
        replace H := Option.bind_eq_some_iff.mp H
        obtain ⟨t283, A140, H⟩ := H
        replace H : (some t283) = some r := H
        have A14 := Aside0.mk A140
        clear A140
        obtain rfl := Option.some.inj H
        go_wp2_with (first | ((with_reducible refine gate_callee (f := 10) rfl ?_); refine goesL_ (some 38) rfl rfl Try.func10 (by kernel_rfl) rfl #[] rfl (by (try simp only [List.map_toArray, List.map_cons, List.map_nil]); first | done | rfl | (simp only [List.length_drop, List.length_take]; rfl)) ?_; (with_reducible refine (conductorlaw01_live.calls kj3  t283 _ A14.out).mono ?_); rintro e w15 ⟨rfl, hb⟩; refine ⟨_, rfl, ?_⟩; have n0_ := Aside0.mk (below_step (by repeat (first | (with_reducible first | exact HB.out | apply below_alloc | apply pw_below_drewN | apply below_drew1) | exact HB.out)) hb); clear HB; have HB := n0_; clear n0_; (try clear hb); (try clear hb2); (try clear hk); (try clear hi)))
        go_ret
        exact ⟨by first | rfl | (simp [errW_none, errW_some] <;> rfl) | (simp [*, errW_none, errW_some] <;> rfl), by repeat (first | (with_reducible first | exact HB.out | apply below_alloc | apply pw_below_drewN | apply below_drew1) | exact HB.out)⟩
      · replace c13 := Bool.eq_false_iff.mpr c13
        subst c13
        have H1 : (conductorlaw01_PackBack.l0 kj3 l0 l1 l2 ([] : List Int) l0 (l0.length : Int) 0) = some r := by rw [if_neg (show ¬ (false = true) by decide)] at H; exact H
        clear H
        have H := H1
        clear H1
        have H' := Aside0.mk H
        clear H
        go_wp2
        go_loopg [7, 41] kj3 (fun kq v7 v41 w' => ∃ (x7_2 : List Int) (x41_2 : Int), v41 = .int .i64 x41_2 ∧ Aside0 (conductorlaw01_PackBack.l0 kq l0 l1 l2 x7_2 l0 (l0.length : Int) x41_2 = some r) ∧ Aside0 (kq ≤ kj3) ∧ Aside0 (Kd.R (Kd.int .u8) 5 w' w.heap.size (fun _ => True) v7 x7_2) ∧ Aside0 (Below w.heap.size w w'))
        case atStart => exact ⟨(([] : List Int)), (0), (by first | rfl | (simp; done) | (simp [*]; done) | (simp [Go.Proofs.Ytdlmkdgcdbkeaaa.Str.isE, Go.Proofs.Ytdlmkdgcdbkeaaa.Str.isE']; done)), H', ⟨Nat.le_refl _⟩, ⟨by first | exact Kd.R_nil _ _ _ _ _ | exact Kd.N_nil _ _ _ _ _ | exact Kd.V_nil _ _ _ _ _ | exact Kd.Q_nil _ _ _ _ _ | exact Kd.S_nil _ _ _ _ _⟩, ⟨by repeat (first | (with_reducible first | exact HB.out | apply below_alloc | apply pw_below_drewN | apply below_drew1) | exact HB.out)⟩⟩
        case round =>
          clear H'
          try clear c1
          try clear c2
          try clear p2
          try clear c6
          try clear c7
          try clear c7b0
          try clear c7b1
          try clear c9
          try clear c9b0
          try clear c9b1
          try clear c10
          try clear c13
          try clear p2
          obtain ⟨x7_2, x41_2, rfl, HA, HK2, HO_7, HB⟩ := hrel
          cases gk with
          | zero => exact absurd HA.out (by simp [conductorlaw01_PackBack.l0])
          | succ k2 =>
            have H := HA.out
            clear HA
            simp only [conductorlaw01_PackBack.l0] at H
            by_cases c16 : x41_2 < (l0.length : Int)
            · rw [if_pos c16] at H
              have c16b0 : decide (x41_2 < (l0.length : Int)) = true := decide_eq_true c16
              clear c16
              by_cases c17 : 0 ≤ x41_2
              · rw [if_pos c17] at H
                have c17b0 : decide (0 ≤ x41_2) = true := decide_eq_true c17
                clear c17
                by_cases c18 : x41_2 < (l0.length : Int)
                · rw [if_pos c18] at H
                  have c18b0 : decide (x41_2 < (l0.length : Int)) = true := decide_eq_true c18
                  clear c18
                  replace H := Option.bind_eq_some_iff.mp H
                  obtain ⟨t285, A190, H⟩ := H
                  replace H : ((pack_Join.f k2 (([x7_2, t285] : List (List Int)))).bind fun t291 => (conductorlaw01_PackBack.l0 k2 l0 l1 l2 t291 l0 (l0.length : Int) (wrap64 (x41_2 + 1)))) = some r := H
                  have A19 := Aside0.mk A190
                  clear A190
                  obtain ⟨y288, hy288⟩ : ∃ y_ : List (List Int), y_ = (([x7_2, t285] : List (List Int))) := ⟨_, rfl⟩
                  replace H : ((pack_Join.f k2 y288).bind fun t291 => (conductorlaw01_PackBack.l0 k2 l0 l1 l2 t291 l0 (l0.length : Int) (wrap64 (x41_2 + 1)))) = some r := by first | (rw [hy288]; with_reducible exact H) | (have H2_ := (Option.bind_some _ _).symm.trans H; rw [hy288]; with_reducible exact H2_) | (have H2_ := (Option.bind_some _ _).symm.trans H; with_reducible exact H2_) | with_reducible exact H | (rw [hy288]; exact H) | exact H
                  have Ny288 := Aside0.mk hy288
                  clear hy288
                  replace H := Option.bind_eq_some_iff.mp H
                  obtain ⟨t291, A200, H⟩ := H
                  replace H : (conductorlaw01_PackBack.l0 k2 l0 l1 l2 t291 l0 (l0.length : Int) (wrap64 (x41_2 + 1))) = some r := H
                  have A20 := Aside0.mk A200
                  clear A200
                  have H' := Aside0.mk H
                  clear H
                  have p284 : 0 ≤ (x41_2 : Int) := of_decide_eq_true (by first | (with_reducible assumption) | assumption)
                  have q284 : x41_2 < (l0.length : Int) := of_decide_eq_true (by first | (with_reducible assumption) | assumption)
                  obtain ⟨ad284, e284, hx284_0⟩ := Kd.at_int HR0.out x41_2 p284 q284
                  cases e284
                  replace hx284_0 := (HB.out.cell (World.block_lt_of_cell? w _ hx284_0)).trans hx284_0
                  replace p284 := eq_true p284
                  replace q284 := eq_true q284
                  go_wp2_with (first | ((with_reducible refine gate_callee (f := 16) rfl ?_); refine goesL_ (some 47) rfl rfl Try.func16 (by kernel_rfl) rfl #[.int .u64 (rd l0 x41_2)] rfl (by (try simp only [List.map_toArray, List.map_cons, List.map_nil]); first | done | rfl | (simp only [List.length_drop, List.length_take]; rfl)) ?_; (with_reducible refine (pack_Uint.calls k2 (rd l0 x41_2) t285 _ A19.out).mono ?_); rintro e w21 ⟨v286, rfl, ho0, hb⟩; refine ⟨_, rfl, ?_⟩; have n0_ := Aside0.mk (Kd.R_elder' (by (with_reducible repeat (first | apply Kd.R_alloc | apply Kd.R_drewN | apply Kd.R_drew)); exact HO_7.out) (Kd.R_base ho0) hb); have n1_ := Aside0.mk (Kd.R_lower (Kd.R_new' ho0 (Kd.R_lt (by (with_reducible repeat (first | apply Kd.R_alloc | apply Kd.R_drewN | apply Kd.R_drew)); exact HO_7.out))) (below_size (by repeat (first | (with_reducible first | exact HB.out | apply below_alloc | apply pw_below_drewN | apply below_drew1) | exact HB.out)))); have n2_ := Aside0.mk (below_step (by repeat (first | (with_reducible first | exact HB.out | apply below_alloc | apply pw_below_drewN | apply below_drew1) | exact HB.out)) hb); clear HO_7; clear HB; have HO_7 := n0_; have HO287 := n1_; have HB := n2_; clear n0_ n1_ n2_; (try clear hb); (try clear hb2); (try clear hk); (try clear hi); (try clear ho0); obtain ⟨Ao22, co22, eo22⟩ := Kd.R_slice HO_7.out; subst eo22; obtain ⟨Ao23, co23, eo23⟩ := Kd.R_slice HO287.out; subst eo23) | ((with_reducible refine gate_dst (N := 48) rfl ?_); (try (refine gate_guard (by rfl) ?_; dsimp only)); refine Kd.N_lit (Kd.slice 5 (Kd.int .u8)) _ 25 ?hg (N' := 48) ?hd (xs := ([x7_2, t285] : List (List Int))) (inner := [.slice Ao22 x7_2.length co22, .slice Ao23 t285.length co23]) (ok := (fun _ => True)) (okp := (fun _ => True)) ?hr ?hp (fun _ hk => hk) ((show ∀ k_, w21.heap.size ≤ k_ → (fun _ => True) k_ from fun k_ hk => trivial) _ (Nat.le_refl _)) (Below.refl _ _) (Nat.le_refl _) (by simp) ?_; (case hd => rfl); (case hg => rfl); (case hr => first | (go_simp; done) | (go_simp; rfl)); (case hp => exact (Reps.one (show Kd.FK (Kd.slice 5 (Kd.int .u8)) _ _ x7_2 [.slice Ao22 x7_2.length co22] from (Kd.FK_slice_mk (Kd.R_reads' (Kd.R_mono (ok' := (fun _ => True)) (HO_7.out) (fun k_ hk => trivial))).2.1 (Kd.R_F (Kd.R_mono (ok' := (fun _ => True)) (HO_7.out) (fun k_ hk => trivial))))) (Reps.one (show Kd.FK (Kd.slice 5 (Kd.int .u8)) _ _ t285 [.slice Ao23 t285.length co23] from (Kd.FK_slice_mk (Kd.R_reads' (Kd.R_mono (ok' := (fun _ => True)) (HO287.out) (fun k_ hk => trivial))).2.1 (Kd.R_F (Kd.R_mono (ok' := (fun _ => True)) (HO287.out) (fun k_ hk => trivial))))) (Reps.none _ _)))); intro v289 w24 ho25 hb hg_ hnew_; clear hg_ hnew_; (first | rw [← Ny288.out] at ho25 | (simp only [Int.reduceToNat] at ho25; rw [← Ny288.out] at ho25)); have n0_ := Aside0.mk (Kd.N_lower ho25 (below_size (by repeat (first | (with_reducible first | exact HB.out | apply below_alloc | apply pw_below_drewN | apply below_drew1) | exact HB.out)))); have n1_ := Aside0.mk (below_step (by repeat (first | (with_reducible first | exact HB.out | apply below_alloc | apply pw_below_drewN | apply below_drew1) | exact HB.out)) hb); clear HB; clear HO287; clear HO_7; have HO290 := n0_; have HB := n1_; clear n0_ n1_; clear hb ho25; obtain ⟨Ao26, co26, eo26⟩ := Kd.N_slice HO290.out; subst eo26) | ((with_reducible refine gate_callee (f := 14) rfl ?_); refine goesL_ (some 49) rfl rfl Try.func14 (by kernel_rfl) rfl #[.slice Ao26 y288.length co26] rfl (by (try simp only [List.map_toArray, List.map_cons, List.map_nil]); first | done | rfl | (simp only [List.length_drop, List.length_take]; rfl)) ?_; (with_reducible refine (pack_Join.calls k2 _ _ y288 t291 _ ?side1 ?side2 A20.out).mono ?_); (case side1 => repeat (first | exact (Kd.N_reads' HO290.out).2.2 | (with_reducible refine Kd.C_alloc ?_ _) | (with_reducible refine Kd.C_drewN ?_ _) | (with_reducible refine Kd.C_drew ?_))); (case side2 => exact (Kd.N_reads' HO290.out).2.1); rintro e w27 ⟨v292, rfl, ho0, hb⟩; refine ⟨_, rfl, ?_⟩; have n0_ := Aside0.mk (Kd.N_elder' (by (with_reducible repeat (first | apply Kd.N_alloc | apply Kd.N_drewN | apply Kd.N_drew)); exact HO290.out) (Kd.R_base ho0) hb); have n1_ := Aside0.mk (Kd.R_lower ho0 (below_size (by repeat (first | (with_reducible first | exact HB.out | apply below_alloc | apply pw_below_drewN | apply below_drew1) | exact HB.out)))); have n2_ := Aside0.mk (below_step (by repeat (first | (with_reducible first | exact HB.out | apply below_alloc | apply pw_below_drewN | apply below_drew1) | exact HB.out)) hb); clear HO290; clear HB; have HO290 := n0_; have HO293 := n1_; have HB := n2_; clear n0_ n1_ n2_; (try clear hb); (try clear hb2); (try clear hk); (try clear hi); (try clear ho0)))
                  go_roundg k2
                  case measure => have := HJ3.out; have := HK2.out; omega
                  case rel => exact ⟨(t291), (wrap64 (x41_2 + 1)), (by first | rfl | (simp; done) | (simp [*]; done) | (simp [Go.Proofs.Ytdlmkdgcdbkeaaa.Str.isE, Go.Proofs.Ytdlmkdgcdbkeaaa.Str.isE']; done)), H', ⟨by have := HJ3.out; have := HK2.out; omega⟩, ⟨by (with_reducible repeat (first | apply Kd.R_alloc | apply Kd.R_drewN | apply Kd.R_drew)); exact HO293.out⟩, ⟨by repeat (first | (with_reducible first | exact HB.out | apply below_alloc | apply pw_below_drewN | apply below_drew1) | exact HB.out)⟩⟩
                · rw [if_neg c18] at H
                  exact absurd H (by simp)
              · rw [if_neg c17] at H
                exact absurd H (by simp)
            · rw [if_neg c16] at H
              have c16b0 : decide (x41_2 < (l0.length : Int)) = false := decide_eq_false c16
              clear c16
              have H' := Aside0.mk H
              clear H
              go_wp2
              go_loopg [7, 53] k2 (fun kq v7 v53 w' => ∃ (x7_3 : List Int) (x53_3 : Int), v53 = .int .i64 x53_3 ∧ Aside0 (conductorlaw01_PackBack.l1 kq l0 l1 l2 x7_3 l1 (l1.length : Int) x53_3 = some r) ∧ Aside0 (kq ≤ k2) ∧ Aside0 (Kd.R (Kd.int .u8) 5 w' w.heap.size (fun _ => True) v7 x7_3) ∧ Aside0 (Below w.heap.size w w'))
              case atStart => exact ⟨(x7_2), (0), (by first | rfl | (simp; done) | (simp [*]; done) | (simp [Go.Proofs.Ytdlmkdgcdbkeaaa.Str.isE, Go.Proofs.Ytdlmkdgcdbkeaaa.Str.isE']; done)), H', ⟨Nat.le_refl _⟩, ⟨by (with_reducible repeat (first | apply Kd.R_alloc | apply Kd.R_drewN | apply Kd.R_drew)); exact HO_7.out⟩, ⟨by repeat (first | (with_reducible first | exact HB.out | apply below_alloc | apply pw_below_drewN | apply below_drew1) | exact HB.out)⟩⟩
              case round =>
                clear H'
                try clear c1
                try clear c2
                try clear p2
                try clear q2
                try clear hx2
                try clear c6
                try clear p6
                try clear c7
                try clear c7b0
                try clear c7b1
                try clear c9
                try clear c9b0
                try clear c9b1
                try clear c10
                try clear c13
                try clear c14
                try clear c16
                try clear c16b0
                try clear c17
                try clear c17b0
                try clear c18
                try clear c18b0
                try clear hx284_0
                try clear p2
                try clear p284
                try clear q284
                obtain ⟨x7_3, x53_3, rfl, HA, HK3, HO_7, HB⟩ := hrel
                cases gk with
                | zero => exact absurd HA.out (by simp [conductorlaw01_PackBack.l1])
                | succ k3 =>
                  have H := HA.out
                  clear HA
                  simp only [conductorlaw01_PackBack.l1] at H
                  by_cases c28 : x53_3 < (l1.length : Int)
                  · rw [if_pos c28] at H
                    have c28b0 : decide (x53_3 < (l1.length : Int)) = true := decide_eq_true c28
                    clear c28
                    by_cases c29 : 0 ≤ x53_3
                    · rw [if_pos c29] at H
                      have c29b0 : decide (0 ≤ x53_3) = true := decide_eq_true c29
                      clear c29
                      by_cases c30 : x53_3 < (l1.length : Int)
                      · rw [if_pos c30] at H
                        have c30b0 : decide (x53_3 < (l1.length : Int)) = true := decide_eq_true c30
                        clear c30
                        replace H := Option.bind_eq_some_iff.mp H
                        obtain ⟨t295, A310, H⟩ := H
                        replace H : ((pack_Join.f k3 (([x7_3, t295] : List (List Int)))).bind fun t301 => (conductorlaw01_PackBack.l1 k3 l0 l1 l2 t301 l1 (l1.length : Int) (wrap64 (x53_3 + 1)))) = some r := H
                        have A31 := Aside0.mk A310
                        clear A310
                        obtain ⟨y298, hy298⟩ : ∃ y_ : List (List Int), y_ = (([x7_3, t295] : List (List Int))) := ⟨_, rfl⟩
                        replace H : ((pack_Join.f k3 y298).bind fun t301 => (conductorlaw01_PackBack.l1 k3 l0 l1 l2 t301 l1 (l1.length : Int) (wrap64 (x53_3 + 1)))) = some r := by first | (rw [hy298]; with_reducible exact H) | (have H2_ := (Option.bind_some _ _).symm.trans H; rw [hy298]; with_reducible exact H2_) | (have H2_ := (Option.bind_some _ _).symm.trans H; with_reducible exact H2_) | with_reducible exact H | (rw [hy298]; exact H) | exact H
                        have Ny298 := Aside0.mk hy298
                        clear hy298
                        replace H := Option.bind_eq_some_iff.mp H
                        obtain ⟨t301, A320, H⟩ := H
                        replace H : (conductorlaw01_PackBack.l1 k3 l0 l1 l2 t301 l1 (l1.length : Int) (wrap64 (x53_3 + 1))) = some r := H
                        have A32 := Aside0.mk A320
                        clear A320
                        have H' := Aside0.mk H
                        clear H
                        have p294 : 0 ≤ (x53_3 : Int) := of_decide_eq_true (by first | (with_reducible assumption) | assumption)
                        have q294 : x53_3 < (l1.length : Int) := of_decide_eq_true (by first | (with_reducible assumption) | assumption)
                        obtain ⟨ad294, e294, hx294_0⟩ := Kd.at_int HR1.out x53_3 p294 q294
                        cases e294
                        replace hx294_0 := (HB.out.cell (World.block_lt_of_cell? w _ hx294_0)).trans hx294_0
                        replace p294 := eq_true p294
                        replace q294 := eq_true q294
                        go_wp2_with (first | ((with_reducible refine gate_callee (f := 18) rfl ?_); refine goesL_ (some 59) rfl rfl Try.func18 (by kernel_rfl) rfl #[.int .i64 (rd l1 x53_3)] rfl (by (try simp only [List.map_toArray, List.map_cons, List.map_nil]); first | done | rfl | (simp only [List.length_drop, List.length_take]; rfl)) ?_; (with_reducible refine (pack_Int.calls k3 (rd l1 x53_3) t295 _ A31.out).mono ?_); rintro e w33 ⟨v296, rfl, ho0, hb⟩; refine ⟨_, rfl, ?_⟩; have n0_ := Aside0.mk (Kd.R_elder' (by (with_reducible repeat (first | apply Kd.R_alloc | apply Kd.R_drewN | apply Kd.R_drew)); exact HO_7.out) (Kd.R_base ho0) hb); have n1_ := Aside0.mk (Kd.R_lower (Kd.R_new' ho0 (Kd.R_lt (by (with_reducible repeat (first | apply Kd.R_alloc | apply Kd.R_drewN | apply Kd.R_drew)); exact HO_7.out))) (below_size (by repeat (first | (with_reducible first | exact HB.out | apply below_alloc | apply pw_below_drewN | apply below_drew1) | exact HB.out)))); have n2_ := Aside0.mk (below_step (by repeat (first | (with_reducible first | exact HB.out | apply below_alloc | apply pw_below_drewN | apply below_drew1) | exact HB.out)) hb); clear HO_7; clear HB; have HO_7 := n0_; have HO297 := n1_; have HB := n2_; clear n0_ n1_ n2_; (try clear hb); (try clear hb2); (try clear hk); (try clear hi); (try clear ho0); obtain ⟨Ao34, co34, eo34⟩ := Kd.R_slice HO_7.out; subst eo34; obtain ⟨Ao35, co35, eo35⟩ := Kd.R_slice HO297.out; subst eo35) | ((with_reducible refine gate_dst (N := 60) rfl ?_); (try (refine gate_guard (by rfl) ?_; dsimp only)); refine Kd.N_lit (Kd.slice 5 (Kd.int .u8)) _ 25 ?hg (N' := 60) ?hd (xs := ([x7_3, t295] : List (List Int))) (inner := [.slice Ao34 x7_3.length co34, .slice Ao35 t295.length co35]) (ok := (fun _ => True)) (okp := (fun _ => True)) ?hr ?hp (fun _ hk => hk) ((show ∀ k_, w33.heap.size ≤ k_ → (fun _ => True) k_ from fun k_ hk => trivial) _ (Nat.le_refl _)) (Below.refl _ _) (Nat.le_refl _) (by simp) ?_; (case hd => rfl); (case hg => rfl); (case hr => first | (go_simp; done) | (go_simp; rfl)); (case hp => exact (Reps.one (show Kd.FK (Kd.slice 5 (Kd.int .u8)) _ _ x7_3 [.slice Ao34 x7_3.length co34] from (Kd.FK_slice_mk (Kd.R_reads' (Kd.R_mono (ok' := (fun _ => True)) (HO_7.out) (fun k_ hk => trivial))).2.1 (Kd.R_F (Kd.R_mono (ok' := (fun _ => True)) (HO_7.out) (fun k_ hk => trivial))))) (Reps.one (show Kd.FK (Kd.slice 5 (Kd.int .u8)) _ _ t295 [.slice Ao35 t295.length co35] from (Kd.FK_slice_mk (Kd.R_reads' (Kd.R_mono (ok' := (fun _ => True)) (HO297.out) (fun k_ hk => trivial))).2.1 (Kd.R_F (Kd.R_mono (ok' := (fun _ => True)) (HO297.out) (fun k_ hk => trivial))))) (Reps.none _ _)))); intro v299 w36 ho37 hb hg_ hnew_; clear hg_ hnew_; (first | rw [← Ny298.out] at ho37 | (simp only [Int.reduceToNat] at ho37; rw [← Ny298.out] at ho37)); have n0_ := Aside0.mk (Kd.N_lower ho37 (below_size (by repeat (first | (with_reducible first | exact HB.out | apply below_alloc | apply pw_below_drewN | apply below_drew1) | exact HB.out)))); have n1_ := Aside0.mk (below_step (by repeat (first | (with_reducible first | exact HB.out | apply below_alloc | apply pw_below_drewN | apply below_drew1) | exact HB.out)) hb); clear HB; clear HO297; clear HO_7; have HO300 := n0_; have HB := n1_; clear n0_ n1_; clear hb ho37; obtain ⟨Ao38, co38, eo38⟩ := Kd.N_slice HO300.out; subst eo38) | ((with_reducible refine gate_callee (f := 14) rfl ?_); refine goesL_ (some 61) rfl rfl Try.func14 (by kernel_rfl) rfl #[.slice Ao38 y298.length co38] rfl (by (try simp only [List.map_toArray, List.map_cons, List.map_nil]); first | done | rfl | (simp only [List.length_drop, List.length_take]; rfl)) ?_; (with_reducible refine (pack_Join.calls k3 _ _ y298 t301 _ ?side1 ?side2 A32.out).mono ?_); (case side1 => repeat (first | exact (Kd.N_reads' HO300.out).2.2 | (with_reducible refine Kd.C_alloc ?_ _) | (with_reducible refine Kd.C_drewN ?_ _) | (with_reducible refine Kd.C_drew ?_))); (case side2 => exact (Kd.N_reads' HO300.out).2.1); rintro e w39 ⟨v302, rfl, ho0, hb⟩; refine ⟨_, rfl, ?_⟩; have n0_ := Aside0.mk (Kd.N_elder' (by (with_reducible repeat (first | apply Kd.N_alloc | apply Kd.N_drewN | apply Kd.N_drew)); exact HO300.out) (Kd.R_base ho0) hb); have n1_ := Aside0.mk (Kd.R_lower ho0 (below_size (by repeat (first | (with_reducible first | exact HB.out | apply below_alloc | apply pw_below_drewN | apply below_drew1) | exact HB.out)))); have n2_ := Aside0.mk (below_step (by repeat (first | (with_reducible first | exact HB.out | apply below_alloc | apply pw_below_drewN | apply below_drew1) | exact HB.out)) hb); clear HO300; clear HB; have HO300 := n0_; have HO303 := n1_; have HB := n2_; clear n0_ n1_ n2_; (try clear hb); (try clear hb2); (try clear hk); (try clear hi); (try clear ho0)))
                        go_roundg k3
                        case measure => have := HJ3.out; have := HK2.out; have := HK3.out; omega
                        case rel => exact ⟨(t301), (wrap64 (x53_3 + 1)), (by first | rfl | (simp; done) | (simp [*]; done) | (simp [Go.Proofs.Ytdlmkdgcdbkeaaa.Str.isE, Go.Proofs.Ytdlmkdgcdbkeaaa.Str.isE']; done)), H', ⟨by have := HJ3.out; have := HK2.out; have := HK3.out; omega⟩, ⟨by (with_reducible repeat (first | apply Kd.R_alloc | apply Kd.R_drewN | apply Kd.R_drew)); exact HO303.out⟩, ⟨by repeat (first | (with_reducible first | exact HB.out | apply below_alloc | apply pw_below_drewN | apply below_drew1) | exact HB.out)⟩⟩
                      · rw [if_neg c30] at H
                        exact absurd H (by simp)
                    · rw [if_neg c29] at H
                      exact absurd H (by simp)
                  · rw [if_neg c28] at H
                    have c28b0 : decide (x53_3 < (l1.length : Int)) = false := decide_eq_false c28
                    clear c28
                    have H' := Aside0.mk H
                    clear H
                    go_wp2
                    go_loopg [7, 65] k3 (fun kq v7 v65 w' => ∃ (x7_4 : List Int) (x65_4 : Int), v65 = .int .i64 x65_4 ∧ Aside0 (conductorlaw01_PackBack.l2 kq l0 l1 l2 x7_4 l2 (l2.length : Int) x65_4 = some r) ∧ Aside0 (kq ≤ k3) ∧ Aside0 (Kd.R (Kd.int .u8) 5 w' w.heap.size (fun _ => True) v7 x7_4) ∧ Aside0 (Below w.heap.size w w'))
                    case atStart => exact ⟨(x7_3), (0), (by first | rfl | (simp; done) | (simp [*]; done) | (simp [Go.Proofs.Ytdlmkdgcdbkeaaa.Str.isE, Go.Proofs.Ytdlmkdgcdbkeaaa.Str.isE']; done)), H', ⟨Nat.le_refl _⟩, ⟨by (with_reducible repeat (first | apply Kd.R_alloc | apply Kd.R_drewN | apply Kd.R_drew)); exact HO_7.out⟩, ⟨by repeat (first | (with_reducible first | exact HB.out | apply below_alloc | apply pw_below_drewN | apply below_drew1) | exact HB.out)⟩⟩
                    case round =>
                      clear H'
                      try clear c1
                      try clear c2
                      try clear p2
                      try clear q2
                      try clear hx2
                      try clear c3
                      try clear c6
                      try clear p6
                      try clear c7
                      try clear c7b0
                      try clear c7b1
                      try clear c9
                      try clear c9b0
                      try clear c9b1
                      try clear c10
                      try clear c13
                      try clear c14
                      try clear c16
                      try clear c16b0
                      try clear c17
                      try clear c17b0
                      try clear c18
                      try clear c18b0
                      try clear c28
                      try clear c28b0
                      try clear p28
                      try clear q28
                      try clear hx28
                      try clear c29
                      try clear c29b0
                      try clear p29
                      try clear q29
                      try clear hx29
                      try clear c30
                      try clear c30b0
                      try clear hx284_0
                      try clear hx294_0
                      try clear p2
                      try clear p284
                      try clear p294
                      try clear p6
                      try clear q2
                      try clear q284
                      try clear q294
                      obtain ⟨x7_4, x65_4, rfl, HA, HK4, HO_7, HB⟩ := hrel
                      cases gk with
                      | zero => exact absurd HA.out (by simp [conductorlaw01_PackBack.l2])
                      | succ k4 =>
                        have H := HA.out
                        clear HA
                        simp only [conductorlaw01_PackBack.l2] at H
                        by_cases c40 : x65_4 < (l2.length : Int)
                        · rw [if_pos c40] at H
                          have c40b0 : decide (x65_4 < (l2.length : Int)) = true := decide_eq_true c40
                          clear c40
                          by_cases c41 : 0 ≤ x65_4
                          · rw [if_pos c41] at H
                            have c41b0 : decide (0 ≤ x65_4) = true := decide_eq_true c41
                            clear c41
                            by_cases c42 : x65_4 < (l2.length : Int)
                            · rw [if_pos c42] at H
                              have c42b0 : decide (x65_4 < (l2.length : Int)) = true := decide_eq_true c42
                              clear c42
                              by_cases c43 : ((rdOf ByteArray.empty l2 x65_4).size : Int) > 1000
                              · rw [if_pos c43] at H
                                have c43b0 : decide (1000 < ((rdOf ByteArray.empty l2 x65_4).size : Int)) = true := decide_eq_true c43
                                have c43b1 : decide (1000 < (rdOf ByteArray.empty l2 x65_4).size) = true := decide_eq_true (by omega)
                                clear c43
                                obtain rfl := Option.some.inj H
                                have p304 : 0 ≤ (x65_4 : Int) := of_decide_eq_true (by first | (with_reducible assumption) | assumption)
                                have q304 : x65_4 < (l2.length : Int) := of_decide_eq_true (by first | (with_reducible assumption) | assumption)
                                obtain ⟨ad304, e304, hx304_0⟩ := Kd.at_string HR2.out x65_4 p304 q304
                                cases e304
                                replace hx304_0 := (HB.out.cell (World.block_lt_of_cell? w _ hx304_0)).trans hx304_0
                                replace p304 := eq_true p304
                                replace q304 := eq_true q304
                                go_wp2
                                go_ret
                                exact ⟨by first | rfl | (simp [errW_none, errW_some] <;> rfl) | (simp [*, errW_none, errW_some] <;> rfl), by repeat (first | (with_reducible first | exact HB.out | apply below_alloc | apply pw_below_drewN | apply below_drew1) | exact HB.out)⟩
                              · rw [if_neg c43] at H
                                have c43b0 : decide (1000 < ((rdOf ByteArray.empty l2 x65_4).size : Int)) = false := decide_eq_false c43
                                have c43b1 : decide (1000 < (rdOf ByteArray.empty l2 x65_4).size) = false := decide_eq_false (by omega)
                                clear c43
                                replace H := Option.bind_eq_some_iff.mp H
                                obtain ⟨t305, A440, H⟩ := H
                                replace H : ((pack_Join.f k4 (([x7_4, t305] : List (List Int)))).bind fun t311 => (conductorlaw01_PackBack.l2 k4 l0 l1 l2 t311 l2 (l2.length : Int) (wrap64 (x65_4 + 1)))) = some r := H
                                have A44 := Aside0.mk A440
                                clear A440
                                obtain ⟨y308, hy308⟩ : ∃ y_ : List (List Int), y_ = (([x7_4, t305] : List (List Int))) := ⟨_, rfl⟩
                                replace H : ((pack_Join.f k4 y308).bind fun t311 => (conductorlaw01_PackBack.l2 k4 l0 l1 l2 t311 l2 (l2.length : Int) (wrap64 (x65_4 + 1)))) = some r := by first | (rw [hy308]; with_reducible exact H) | (have H2_ := (Option.bind_some _ _).symm.trans H; rw [hy308]; with_reducible exact H2_) | (have H2_ := (Option.bind_some _ _).symm.trans H; with_reducible exact H2_) | with_reducible exact H | (rw [hy308]; exact H) | exact H
                                have Ny308 := Aside0.mk hy308
                                clear hy308
                                replace H := Option.bind_eq_some_iff.mp H
                                obtain ⟨t311, A450, H⟩ := H
                                replace H : (conductorlaw01_PackBack.l2 k4 l0 l1 l2 t311 l2 (l2.length : Int) (wrap64 (x65_4 + 1))) = some r := H
                                have A45 := Aside0.mk A450
                                clear A450
                                have H' := Aside0.mk H
                                clear H
                                have p304 : 0 ≤ (x65_4 : Int) := of_decide_eq_true (by first | (with_reducible assumption) | assumption)
                                have q304 : x65_4 < (l2.length : Int) := of_decide_eq_true (by first | (with_reducible assumption) | assumption)
                                obtain ⟨ad304, e304, hx304_0⟩ := Kd.at_string HR2.out x65_4 p304 q304
                                cases e304
                                replace hx304_0 := (HB.out.cell (World.block_lt_of_cell? w _ hx304_0)).trans hx304_0
                                replace p304 := eq_true p304
                                replace q304 := eq_true q304
                                go_wp2_with (first | ((with_reducible refine gate_callee (f := 12) rfl ?_); refine goesL_ (some 74) rfl rfl Try.func12 (by kernel_rfl) rfl #[.string (rdOf ByteArray.empty l2 x65_4)] rfl (by (try simp only [List.map_toArray, List.map_cons, List.map_nil]); first | done | rfl | (simp only [List.length_drop, List.length_take]; rfl)) ?_; (with_reducible refine (pack_Text.calls k4 (rdOf ByteArray.empty l2 x65_4) t305 _ A44.out).mono ?_); rintro e w46 ⟨v306, rfl, ho0, hb⟩; refine ⟨_, rfl, ?_⟩; have n0_ := Aside0.mk (Kd.R_elder' (by (with_reducible repeat (first | apply Kd.R_alloc | apply Kd.R_drewN | apply Kd.R_drew)); exact HO_7.out) (Kd.R_base ho0) hb); have n1_ := Aside0.mk (Kd.R_lower (Kd.R_new' ho0 (Kd.R_lt (by (with_reducible repeat (first | apply Kd.R_alloc | apply Kd.R_drewN | apply Kd.R_drew)); exact HO_7.out))) (below_size (by repeat (first | (with_reducible first | exact HB.out | apply below_alloc | apply pw_below_drewN | apply below_drew1) | exact HB.out)))); have n2_ := Aside0.mk (below_step (by repeat (first | (with_reducible first | exact HB.out | apply below_alloc | apply pw_below_drewN | apply below_drew1) | exact HB.out)) hb); clear HO_7; clear HB; have HO_7 := n0_; have HO307 := n1_; have HB := n2_; clear n0_ n1_ n2_; (try clear hb); (try clear hb2); (try clear hk); (try clear hi); (try clear ho0); obtain ⟨Ao47, co47, eo47⟩ := Kd.R_slice HO_7.out; subst eo47; obtain ⟨Ao48, co48, eo48⟩ := Kd.R_slice HO307.out; subst eo48) | ((with_reducible refine gate_dst (N := 75) rfl ?_); (try (refine gate_guard (by rfl) ?_; dsimp only)); refine Kd.N_lit (Kd.slice 5 (Kd.int .u8)) _ 25 ?hg (N' := 75) ?hd (xs := ([x7_4, t305] : List (List Int))) (inner := [.slice Ao47 x7_4.length co47, .slice Ao48 t305.length co48]) (ok := (fun _ => True)) (okp := (fun _ => True)) ?hr ?hp (fun _ hk => hk) ((show ∀ k_, w46.heap.size ≤ k_ → (fun _ => True) k_ from fun k_ hk => trivial) _ (Nat.le_refl _)) (Below.refl _ _) (Nat.le_refl _) (by simp) ?_; (case hd => rfl); (case hg => rfl); (case hr => first | (go_simp; done) | (go_simp; rfl)); (case hp => exact (Reps.one (show Kd.FK (Kd.slice 5 (Kd.int .u8)) _ _ x7_4 [.slice Ao47 x7_4.length co47] from (Kd.FK_slice_mk (Kd.R_reads' (Kd.R_mono (ok' := (fun _ => True)) (HO_7.out) (fun k_ hk => trivial))).2.1 (Kd.R_F (Kd.R_mono (ok' := (fun _ => True)) (HO_7.out) (fun k_ hk => trivial))))) (Reps.one (show Kd.FK (Kd.slice 5 (Kd.int .u8)) _ _ t305 [.slice Ao48 t305.length co48] from (Kd.FK_slice_mk (Kd.R_reads' (Kd.R_mono (ok' := (fun _ => True)) (HO307.out) (fun k_ hk => trivial))).2.1 (Kd.R_F (Kd.R_mono (ok' := (fun _ => True)) (HO307.out) (fun k_ hk => trivial))))) (Reps.none _ _)))); intro v309 w49 ho50 hb hg_ hnew_; clear hg_ hnew_; (first | rw [← Ny308.out] at ho50 | (simp only [Int.reduceToNat] at ho50; rw [← Ny308.out] at ho50)); have n0_ := Aside0.mk (Kd.N_lower ho50 (below_size (by repeat (first | (with_reducible first | exact HB.out | apply below_alloc | apply pw_below_drewN | apply below_drew1) | exact HB.out)))); have n1_ := Aside0.mk (below_step (by repeat (first | (with_reducible first | exact HB.out | apply below_alloc | apply pw_below_drewN | apply below_drew1) | exact HB.out)) hb); clear HB; clear HO307; clear HO_7; have HO310 := n0_; have HB := n1_; clear n0_ n1_; clear hb ho50; obtain ⟨Ao51, co51, eo51⟩ := Kd.N_slice HO310.out; subst eo51) | ((with_reducible refine gate_callee (f := 14) rfl ?_); refine goesL_ (some 76) rfl rfl Try.func14 (by kernel_rfl) rfl #[.slice Ao51 y308.length co51] rfl (by (try simp only [List.map_toArray, List.map_cons, List.map_nil]); first | done | rfl | (simp only [List.length_drop, List.length_take]; rfl)) ?_; (with_reducible refine (pack_Join.calls k4 _ _ y308 t311 _ ?side1 ?side2 A45.out).mono ?_); (case side1 => repeat (first | exact (Kd.N_reads' HO310.out).2.2 | (with_reducible refine Kd.C_alloc ?_ _) | (with_reducible refine Kd.C_drewN ?_ _) | (with_reducible refine Kd.C_drew ?_))); (case side2 => exact (Kd.N_reads' HO310.out).2.1); rintro e w52 ⟨v312, rfl, ho0, hb⟩; refine ⟨_, rfl, ?_⟩; have n0_ := Aside0.mk (Kd.N_elder' (by (with_reducible repeat (first | apply Kd.N_alloc | apply Kd.N_drewN | apply Kd.N_drew)); exact HO310.out) (Kd.R_base ho0) hb); have n1_ := Aside0.mk (Kd.R_lower ho0 (below_size (by repeat (first | (with_reducible first | exact HB.out | apply below_alloc | apply pw_below_drewN | apply below_drew1) | exact HB.out)))); have n2_ := Aside0.mk (below_step (by repeat (first | (with_reducible first | exact HB.out | apply below_alloc | apply pw_below_drewN | apply below_drew1) | exact HB.out)) hb); clear HO310; clear HB; have HO310 := n0_; have HO313 := n1_; have HB := n2_; clear n0_ n1_ n2_; (try clear hb); (try clear hb2); (try clear hk); (try clear hi); (try clear ho0)))
                                go_roundg k4
                                case measure => have := HJ3.out; have := HK2.out; have := HK3.out; have := HK4.out; omega
                                case rel => exact ⟨(t311), (wrap64 (x65_4 + 1)), (by first | rfl | (simp; done) | (simp [*]; done) | (simp [Go.Proofs.Ytdlmkdgcdbkeaaa.Str.isE, Go.Proofs.Ytdlmkdgcdbkeaaa.Str.isE']; done)), H', ⟨by have := HJ3.out; have := HK2.out; have := HK3.out; have := HK4.out; omega⟩, ⟨by (with_reducible repeat (first | apply Kd.R_alloc | apply Kd.R_drewN | apply Kd.R_drew)); exact HO313.out⟩, ⟨by repeat (first | (with_reducible first | exact HB.out | apply below_alloc | apply pw_below_drewN | apply below_drew1) | exact HB.out)⟩⟩
                            · rw [if_neg c42] at H
                              exact absurd H (by simp)
                          · rw [if_neg c41] at H
                            exact absurd H (by simp)
                        · rw [if_neg c40] at H
                          have c40b0 : decide (x65_4 < (l2.length : Int)) = false := decide_eq_false c40
                          clear c40
                          replace H := Option.bind_eq_some_iff.mp H
                          obtain ⟨⟨t314, t315, t316, t317⟩, A530, H⟩ := H
                          replace H : (conductorlaw01_PackBack.l3 k4 l1 l2 l0 (l0.length : Int) 0 t314 t315 t316 t317) = some r := H
                          have A53 := Aside0.mk A530
                          clear A530
                          have H' := Aside0.mk H
                          clear H
                          obtain ⟨Ao54, co54, eo54⟩ := Kd.R_slice HO_7.out
                          subst eo54
                          go_wp2_with (first | ((with_reducible refine gate_callee (f := 20) rfl ?_); refine goesL_ (some 79) rfl rfl Try.func20 (by kernel_rfl) rfl #[.slice Ao54 x7_4.length co54] rfl (by (try simp only [List.map_toArray, List.map_cons, List.map_nil]); first | done | rfl | (simp only [List.length_drop, List.length_take]; rfl)) ?_; (with_reducible refine (pack_Read.calls k4 _ _ x7_4 t314 t315 t316 t317 w _ ?side1 ?side2 ?side3 A53.out).mono ?_); (case side1 => repeat (first | (with_reducible first | exact HB.out | apply below_alloc | apply pw_below_drewN | apply below_drew1) | exact HB.out)); (case side2 => repeat (first | exact (Kd.R_reads' HO_7.out).2.2 | (with_reducible refine Kd.C_alloc ?_ _) | (with_reducible refine Kd.C_drewN ?_ _) | (with_reducible refine Kd.C_drew ?_))); (case side3 => exact (Kd.R_reads' HO_7.out).2.1); rintro e w55 ⟨g318, rfl, hi, hb, hb2⟩; refine ⟨_, rfl, ?_⟩; have n0_ := Aside0.mk (Kd.R_below (by (with_reducible repeat (first | apply Kd.R_alloc | apply Kd.R_drewN | apply Kd.R_drew)); exact HO_7.out) hb2); have n1_ := Aside0.mk (hb); have n2_ := Aside0.mk (hi); clear HO_7; clear HB; have HO_7 := n0_; have HB := n1_; have HI318 := n2_; clear n0_ n1_ n2_; (try clear hb); (try clear hb2); (try clear hk); (try clear hi)))
                          go_loopg [82] k4 (fun kq v82 w' => ∃ (x82_5 : Int) (x319000_5 : Bool) (x319002_5 : Int) (x319003_5 : Int), v82 = .int .i64 x82_5 ∧ Aside0 (conductorlaw01_PackBack.l3 kq l1 l2 l0 (l0.length : Int) x82_5 x319000_5 t315 x319002_5 x319003_5 = some r) ∧ Aside0 (kq ≤ k4) ∧ Aside0 (IsT60 w w' g318 x319000_5 t315 x319002_5 x319003_5) ∧ Aside0 (Below w.heap.size w w'))
                          case atStart => exact ⟨(0), (t314), (t316), (t317), (by first | rfl | (simp; done) | (simp [*]; done) | (simp [Go.Proofs.Ytdlmkdgcdbkeaaa.Str.isE, Go.Proofs.Ytdlmkdgcdbkeaaa.Str.isE']; done)), H', ⟨Nat.le_refl _⟩, ⟨by repeat (first | (with_reducible first | exact HI318.out | apply IsT60.alloc | apply IsT60.drewN | apply IsT60.drew | apply IsT60.set_0 | apply IsT60.set_2 | apply IsT60.set_3) | exact HI318.out)⟩, ⟨by repeat (first | (with_reducible first | exact HB.out | apply below_alloc | apply pw_below_drewN | apply below_drew1 | refine below_set ?_ (IsT60.ge HI318.out)) | exact HB.out)⟩⟩
                          case round =>
                            clear H'
                            try clear c1
                            try clear c2
                            try clear p2
                            try clear q2
                            try clear hx2
                            try clear c3
                            try clear p3
                            try clear q3
                            try clear hx3
                            try clear c4
                            try clear c6
                            try clear p6
                            try clear c7
                            try clear c7b0
                            try clear c7b1
                            try clear c9
                            try clear c9b0
                            try clear c9b1
                            try clear c10
                            try clear c12
                            try clear c13
                            try clear c14
                            try clear c16
                            try clear c16b0
                            try clear c17
                            try clear c17b0
                            try clear c18
                            try clear c18b0
                            try clear c20
                            try clear c28
                            try clear c28b0
                            try clear p28
                            try clear q28
                            try clear hx28
                            try clear c29
                            try clear c29b0
                            try clear p29
                            try clear q29
                            try clear hx29
                            try clear c30
                            try clear c30b0
                            try clear p30
                            try clear q30
                            try clear hx30
                            try clear c40
                            try clear c40b0
                            try clear c41
                            try clear c41b0
                            try clear c42
                            try clear c42b0
                            try clear c43
                            try clear c43b0
                            try clear c43b1
                            try clear hx284_0
                            try clear hx294_0
                            try clear hx304_0
                            try clear p2
                            try clear p28
                            try clear p284
                            try clear p29
                            try clear p294
                            try clear p304
                            try clear p6
                            try clear q2
                            try clear q28
                            try clear q284
                            try clear q29
                            try clear q294
                            try clear q304
                            obtain ⟨x82_5, x319000_5, x319002_5, x319003_5, rfl, HA, HK5, HI318, HB⟩ := hrel
                            cases gk with
                            | zero => exact absurd HA.out (by simp [conductorlaw01_PackBack.l3])
                            | succ k5 =>
                              have H := HA.out
                              clear HA
                              simp only [conductorlaw01_PackBack.l3] at H
                              by_cases c56 : x82_5 < (l0.length : Int)
                              · rw [if_pos c56] at H
                                have c56b0 : decide (x82_5 < (l0.length : Int)) = true := decide_eq_true c56
                                clear c56
                                by_cases c57 : 0 ≤ x82_5
                                · rw [if_pos c57] at H
                                  have c57b0 : decide (0 ≤ x82_5) = true := decide_eq_true c57
                                  clear c57
                                  by_cases c58 : x82_5 < (l0.length : Int)
                                  · rw [if_pos c58] at H
                                    have c58b0 : decide (x82_5 < (l0.length : Int)) = true := decide_eq_true c58
                                    clear c58
                                    replace H := Option.bind_eq_some_iff.mp H
                                    obtain ⟨⟨t320, t321, t322, t323⟩, A590, H⟩ := H
                                    replace H : (if t320 = (rd l0 x82_5) then (conductorlaw01_PackBack.l3 k5 l1 l2 l0 (l0.length : Int) (wrap64 (x82_5 + 1)) t321 t315 t322 t323) else (some false)) = some r := H
                                    have A59 := Aside0.mk A590
                                    clear A590
                                    by_cases c60 : t320 = (rd l0 x82_5)
                                    · rw [if_pos c60] at H
                                      have c60b0 : (t320 == (rd l0 x82_5)) = true := beq_iff_eq.mpr c60
                                      have c60b1 : (t320 != (rd l0 x82_5)) = false := bne_eq_false_iff_eq.mpr c60
                                      clear c60
                                      have H' := Aside0.mk H
                                      clear H
                                      have p319 : 0 ≤ (x82_5 : Int) := of_decide_eq_true (by first | (with_reducible assumption) | assumption)
                                      have q319 : x82_5 < (l0.length : Int) := of_decide_eq_true (by first | (with_reducible assumption) | assumption)
                                      obtain ⟨ad319, e319, hx319_0⟩ := Kd.at_int HR0.out x82_5 p319 q319
                                      cases e319
                                      replace hx319_0 := (HB.out.cell (World.block_lt_of_cell? w _ hx319_0)).trans hx319_0
                                      replace p319 := eq_true p319
                                      replace q319 := eq_true q319
                                      go_wp2_with (first | ((with_reducible refine gate_callee (f := 21) rfl ?_); refine goesL_ (some 88) rfl rfl Try.func21 (by kernel_rfl) rfl #[.pointer (some ⟨g318, 0, none⟩), .int .u64 (rd l0 x82_5)] rfl (by (try simp only [List.map_toArray, List.map_cons, List.map_nil]); first | done | rfl | (simp only [List.length_drop, List.length_take]; rfl)) ?_; (with_reducible refine (pack_Reader_Uint.callsT k5 g318 x319000_5 t315 x319002_5 x319003_5 (rd l0 x82_5) t320 t321 t322 t323 w _ ?side1 ?side2 A59.out).mono ?_); (case side1 => repeat (first | (with_reducible first | exact HI318.out | apply IsT60.alloc | apply IsT60.drewN | apply IsT60.drew | apply IsT60.set_0 | apply IsT60.set_2 | apply IsT60.set_3) | exact HI318.out)); (case side2 => repeat (first | (with_reducible first | exact HB.out | apply below_alloc | apply pw_below_drewN | apply below_drew1 | refine below_set ?_ (IsT60.ge HI318.out)) | exact HB.out)); rintro e w61 ⟨rfl, hi, hb, hk⟩; refine ⟨_, rfl, ?_⟩; have n0_ := Aside0.mk (hb); have n1_ := Aside0.mk (hi); clear HB; clear HI318; have HB := n0_; have HI318 := n1_; clear n0_ n1_; (try clear hb); (try clear hb2); (try clear hk); (try clear hi)))
                                      go_roundg k5
                                      case measure => have := HJ3.out; have := HK2.out; have := HK3.out; have := HK4.out; have := HK5.out; omega
                                      case rel => exact ⟨(wrap64 (x82_5 + 1)), (t321), (t322), (t323), (by first | rfl | (simp; done) | (simp [*]; done) | (simp [Go.Proofs.Ytdlmkdgcdbkeaaa.Str.isE, Go.Proofs.Ytdlmkdgcdbkeaaa.Str.isE']; done)), H', ⟨by have := HJ3.out; have := HK2.out; have := HK3.out; have := HK4.out; have := HK5.out; omega⟩, ⟨by repeat (first | (with_reducible first | exact HI318.out | apply IsT60.alloc | apply IsT60.drewN | apply IsT60.drew | apply IsT60.set_0 | apply IsT60.set_2 | apply IsT60.set_3) | exact HI318.out)⟩, ⟨by repeat (first | (with_reducible first | exact HB.out | apply below_alloc | apply pw_below_drewN | apply below_drew1 | refine below_set ?_ (IsT60.ge HI318.out)) | exact HB.out)⟩⟩
                                    · rw [if_neg c60] at H
                                      have c60b0 : (t320 == (rd l0 x82_5)) = false := beq_eq_false_iff_ne.mpr c60
                                      have c60b1 : (t320 != (rd l0 x82_5)) = true := bne_iff_ne.mpr c60
                                      obtain rfl := Option.some.inj H
                                      have p319 : 0 ≤ (x82_5 : Int) := of_decide_eq_true (by first | (with_reducible assumption) | assumption)
                                      have q319 : x82_5 < (l0.length : Int) := of_decide_eq_true (by first | (with_reducible assumption) | assumption)
                                      obtain ⟨ad319, e319, hx319_0⟩ := Kd.at_int HR0.out x82_5 p319 q319
                                      cases e319
                                      replace hx319_0 := (HB.out.cell (World.block_lt_of_cell? w _ hx319_0)).trans hx319_0
                                      replace p319 := eq_true p319
                                      replace q319 := eq_true q319
                                      go_wp2_with (first | ((with_reducible refine gate_callee (f := 21) rfl ?_); refine goesL_ (some 88) rfl rfl Try.func21 (by kernel_rfl) rfl #[.pointer (some ⟨g318, 0, none⟩), .int .u64 (rd l0 x82_5)] rfl (by (try simp only [List.map_toArray, List.map_cons, List.map_nil]); first | done | rfl | (simp only [List.length_drop, List.length_take]; rfl)) ?_; (with_reducible refine (pack_Reader_Uint.callsT k5 g318 x319000_5 t315 x319002_5 x319003_5 (rd l0 x82_5) t320 t321 t322 t323 w _ ?side1 ?side2 A59.out).mono ?_); (case side1 => repeat (first | (with_reducible first | exact HI318.out | apply IsT60.alloc | apply IsT60.drewN | apply IsT60.drew | apply IsT60.set_0 | apply IsT60.set_2 | apply IsT60.set_3) | exact HI318.out)); (case side2 => repeat (first | (with_reducible first | exact HB.out | apply below_alloc | apply pw_below_drewN | apply below_drew1 | refine below_set ?_ (IsT60.ge HI318.out)) | exact HB.out)); rintro e w62 ⟨rfl, hi, hb, hk⟩; refine ⟨_, rfl, ?_⟩; have n0_ := Aside0.mk (hb); have n1_ := Aside0.mk (hi); clear HB; clear HI318; have HB := n0_; have HI318 := n1_; clear n0_ n1_; (try clear hb); (try clear hb2); (try clear hk); (try clear hi)))
                                      go_ret
                                      exact ⟨by first | rfl | (simp [errW_none, errW_some] <;> rfl) | (simp [*, errW_none, errW_some] <;> rfl), by repeat (first | (with_reducible first | exact HB.out | apply below_alloc | apply pw_below_drewN | apply below_drew1 | refine below_set ?_ (IsT60.ge HI318.out)) | exact HB.out)⟩
                                  · rw [if_neg c58] at H
                                    exact absurd H (by simp)
                                · rw [if_neg c57] at H
                                  exact absurd H (by simp)
                              · rw [if_neg c56] at H
                                have c56b0 : decide (x82_5 < (l0.length : Int)) = false := decide_eq_false c56
                                clear c56
                                have H' := Aside0.mk H
                                clear H
                                go_wp2
                                go_loopg [94] k5 (fun kq v94 w' => ∃ (x94_6 : Int) (x319000_6 : Bool) (x319002_6 : Int) (x319003_6 : Int), v94 = .int .i64 x94_6 ∧ Aside0 (conductorlaw01_PackBack.l4 kq l2 l1 (l1.length : Int) x94_6 x319000_6 t315 x319002_6 x319003_6 = some r) ∧ Aside0 (kq ≤ k5) ∧ Aside0 (IsT60 w w' g318 x319000_6 t315 x319002_6 x319003_6) ∧ Aside0 (Below w.heap.size w w'))
                                case atStart => exact ⟨(0), (x319000_5), (x319002_5), (x319003_5), (by first | rfl | (simp; done) | (simp [*]; done) | (simp [Go.Proofs.Ytdlmkdgcdbkeaaa.Str.isE, Go.Proofs.Ytdlmkdgcdbkeaaa.Str.isE']; done)), H', ⟨Nat.le_refl _⟩, ⟨by repeat (first | (with_reducible first | exact HI318.out | apply IsT60.alloc | apply IsT60.drewN | apply IsT60.drew | apply IsT60.set_0 | apply IsT60.set_2 | apply IsT60.set_3) | exact HI318.out)⟩, ⟨by repeat (first | (with_reducible first | exact HB.out | apply below_alloc | apply pw_below_drewN | apply below_drew1 | refine below_set ?_ (IsT60.ge HI318.out)) | exact HB.out)⟩⟩
                                case round =>
                                  clear H'
                                  try clear c1
                                  try clear c2
                                  try clear p2
                                  try clear q2
                                  try clear hx2
                                  try clear c3
                                  try clear p3
                                  try clear q3
                                  try clear hx3
                                  try clear c4
                                  try clear c5
                                  try clear c6
                                  try clear p6
                                  try clear c7
                                  try clear c7b0
                                  try clear c7b1
                                  try clear c9
                                  try clear c9b0
                                  try clear c9b1
                                  try clear c10
                                  try clear c12
                                  try clear c13
                                  try clear c14
                                  try clear c16
                                  try clear c16b0
                                  try clear c17
                                  try clear c17b0
                                  try clear c18
                                  try clear c18b0
                                  try clear c20
                                  try clear c21
                                  try clear c28
                                  try clear c28b0
                                  try clear p28
                                  try clear q28
                                  try clear hx28
                                  try clear c29
                                  try clear c29b0
                                  try clear p29
                                  try clear q29
                                  try clear hx29
                                  try clear c30
                                  try clear c30b0
                                  try clear p30
                                  try clear q30
                                  try clear hx30
                                  try clear p31
                                  try clear q31
                                  try clear hx31
                                  try clear c40
                                  try clear c40b0
                                  try clear c41
                                  try clear c41b0
                                  try clear c42
                                  try clear c42b0
                                  try clear c43
                                  try clear c43b0
                                  try clear c43b1
                                  try clear c56
                                  try clear c56b0
                                  try clear c57
                                  try clear c57b0
                                  try clear c58
                                  try clear c58b0
                                  try clear c60
                                  try clear c60b0
                                  try clear c60b1
                                  try clear hx284_0
                                  try clear hx294_0
                                  try clear hx304_0
                                  try clear hx319_0
                                  try clear p2
                                  try clear p28
                                  try clear p284
                                  try clear p29
                                  try clear p294
                                  try clear p3
                                  try clear p30
                                  try clear p304
                                  try clear p319
                                  try clear p6
                                  try clear q2
                                  try clear q28
                                  try clear q284
                                  try clear q29
                                  try clear q294
                                  try clear q3
                                  try clear q30
                                  try clear q304
                                  try clear q319
                                  obtain ⟨x94_6, x319000_6, x319002_6, x319003_6, rfl, HA, HK6, HI318, HB⟩ := hrel
                                  cases gk with
                                  | zero => exact absurd HA.out (by simp [conductorlaw01_PackBack.l4])
                                  | succ k6 =>
                                    have H := HA.out
                                    clear HA
                                    simp only [conductorlaw01_PackBack.l4] at H
                                    by_cases c63 : x94_6 < (l1.length : Int)
                                    · rw [if_pos c63] at H
                                      have c63b0 : decide (x94_6 < (l1.length : Int)) = true := decide_eq_true c63
                                      clear c63
                                      by_cases c64 : 0 ≤ x94_6
                                      · rw [if_pos c64] at H
                                        have c64b0 : decide (0 ≤ x94_6) = true := decide_eq_true c64
                                        clear c64
                                        by_cases c65 : x94_6 < (l1.length : Int)
                                        · rw [if_pos c65] at H
                                          have c65b0 : decide (x94_6 < (l1.length : Int)) = true := decide_eq_true c65
                                          clear c65
                                          replace H := Option.bind_eq_some_iff.mp H
                                          obtain ⟨⟨t325, t326, t327, t328⟩, A660, H⟩ := H
                                          replace H : (if t325 = (rd l1 x94_6) then (conductorlaw01_PackBack.l4 k6 l2 l1 (l1.length : Int) (wrap64 (x94_6 + 1)) t326 t315 t327 t328) else (some false)) = some r := H
                                          have A66 := Aside0.mk A660
                                          clear A660
                                          by_cases c67 : t325 = (rd l1 x94_6)
                                          · rw [if_pos c67] at H
                                            have c67b0 : (t325 == (rd l1 x94_6)) = true := beq_iff_eq.mpr c67
                                            have c67b1 : (t325 != (rd l1 x94_6)) = false := bne_eq_false_iff_eq.mpr c67
                                            clear c67
                                            have H' := Aside0.mk H
                                            clear H
                                            have p324 : 0 ≤ (x94_6 : Int) := of_decide_eq_true (by first | (with_reducible assumption) | assumption)
                                            have q324 : x94_6 < (l1.length : Int) := of_decide_eq_true (by first | (with_reducible assumption) | assumption)
                                            obtain ⟨ad324, e324, hx324_0⟩ := Kd.at_int HR1.out x94_6 p324 q324
                                            cases e324
                                            replace hx324_0 := (HB.out.cell (World.block_lt_of_cell? w _ hx324_0)).trans hx324_0
                                            replace p324 := eq_true p324
                                            replace q324 := eq_true q324
                                            go_wp2_with (first | ((with_reducible refine gate_callee (f := 22) rfl ?_); refine goesL_ (some 99) rfl rfl Try.func22 (by kernel_rfl) rfl #[.pointer (some ⟨g318, 0, none⟩)] rfl (by (try simp only [List.map_toArray, List.map_cons, List.map_nil]); first | done | rfl | (simp only [List.length_drop, List.length_take]; rfl)) ?_; (with_reducible refine (pack_Reader_Int.callsT k6 g318 x319000_6 t315 x319002_6 x319003_6 t325 t326 t327 t328 w _ ?side1 ?side2 A66.out).mono ?_); (case side1 => repeat (first | (with_reducible first | exact HI318.out | apply IsT60.alloc | apply IsT60.drewN | apply IsT60.drew | apply IsT60.set_0 | apply IsT60.set_2 | apply IsT60.set_3) | exact HI318.out)); (case side2 => repeat (first | (with_reducible first | exact HB.out | apply below_alloc | apply pw_below_drewN | apply below_drew1 | refine below_set ?_ (IsT60.ge HI318.out)) | exact HB.out)); rintro e w68 ⟨rfl, hi, hb, hk⟩; refine ⟨_, rfl, ?_⟩; have n0_ := Aside0.mk (hb); have n1_ := Aside0.mk (hi); clear HB; clear HI318; have HB := n0_; have HI318 := n1_; clear n0_ n1_; (try clear hb); (try clear hb2); (try clear hk); (try clear hi)))
                                            go_roundg k6
                                            case measure => have := HJ3.out; have := HK2.out; have := HK3.out; have := HK4.out; have := HK5.out; have := HK6.out; omega
                                            case rel => exact ⟨(wrap64 (x94_6 + 1)), (t326), (t327), (t328), (by first | rfl | (simp; done) | (simp [*]; done) | (simp [Go.Proofs.Ytdlmkdgcdbkeaaa.Str.isE, Go.Proofs.Ytdlmkdgcdbkeaaa.Str.isE']; done)), H', ⟨by have := HJ3.out; have := HK2.out; have := HK3.out; have := HK4.out; have := HK5.out; have := HK6.out; omega⟩, ⟨by repeat (first | (with_reducible first | exact HI318.out | apply IsT60.alloc | apply IsT60.drewN | apply IsT60.drew | apply IsT60.set_0 | apply IsT60.set_2 | apply IsT60.set_3) | exact HI318.out)⟩, ⟨by repeat (first | (with_reducible first | exact HB.out | apply below_alloc | apply pw_below_drewN | apply below_drew1 | refine below_set ?_ (IsT60.ge HI318.out)) | exact HB.out)⟩⟩
                                          · rw [if_neg c67] at H
                                            have c67b0 : (t325 == (rd l1 x94_6)) = false := beq_eq_false_iff_ne.mpr c67
                                            have c67b1 : (t325 != (rd l1 x94_6)) = true := bne_iff_ne.mpr c67
                                            obtain rfl := Option.some.inj H
                                            have p324 : 0 ≤ (x94_6 : Int) := of_decide_eq_true (by first | (with_reducible assumption) | assumption)
                                            have q324 : x94_6 < (l1.length : Int) := of_decide_eq_true (by first | (with_reducible assumption) | assumption)
                                            obtain ⟨ad324, e324, hx324_0⟩ := Kd.at_int HR1.out x94_6 p324 q324
                                            cases e324
                                            replace hx324_0 := (HB.out.cell (World.block_lt_of_cell? w _ hx324_0)).trans hx324_0
                                            replace p324 := eq_true p324
                                            replace q324 := eq_true q324
                                            go_wp2_with (first | ((with_reducible refine gate_callee (f := 22) rfl ?_); refine goesL_ (some 99) rfl rfl Try.func22 (by kernel_rfl) rfl #[.pointer (some ⟨g318, 0, none⟩)] rfl (by (try simp only [List.map_toArray, List.map_cons, List.map_nil]); first | done | rfl | (simp only [List.length_drop, List.length_take]; rfl)) ?_; (with_reducible refine (pack_Reader_Int.callsT k6 g318 x319000_6 t315 x319002_6 x319003_6 t325 t326 t327 t328 w _ ?side1 ?side2 A66.out).mono ?_); (case side1 => repeat (first | (with_reducible first | exact HI318.out | apply IsT60.alloc | apply IsT60.drewN | apply IsT60.drew | apply IsT60.set_0 | apply IsT60.set_2 | apply IsT60.set_3) | exact HI318.out)); (case side2 => repeat (first | (with_reducible first | exact HB.out | apply below_alloc | apply pw_below_drewN | apply below_drew1 | refine below_set ?_ (IsT60.ge HI318.out)) | exact HB.out)); rintro e w69 ⟨rfl, hi, hb, hk⟩; refine ⟨_, rfl, ?_⟩; have n0_ := Aside0.mk (hb); have n1_ := Aside0.mk (hi); clear HB; clear HI318; have HB := n0_; have HI318 := n1_; clear n0_ n1_; (try clear hb); (try clear hb2); (try clear hk); (try clear hi)))
                                            go_ret
                                            exact ⟨by first | rfl | (simp [errW_none, errW_some] <;> rfl) | (simp [*, errW_none, errW_some] <;> rfl), by repeat (first | (with_reducible first | exact HB.out | apply below_alloc | apply pw_below_drewN | apply below_drew1 | refine below_set ?_ (IsT60.ge HI318.out)) | exact HB.out)⟩
                                        · rw [if_neg c65] at H
                                          exact absurd H (by simp)
                                      · rw [if_neg c64] at H
                                        exact absurd H (by simp)
                                    · rw [if_neg c63] at H
                                      have c63b0 : decide (x94_6 < (l1.length : Int)) = false := decide_eq_false c63
                                      clear c63
                                      have H' := Aside0.mk H
                                      clear H
                                      go_wp2
                                      go_loopg [105] k6 (fun kq v105 w' => ∃ (x105_7 : Int) (x319000_7 : Bool) (x319002_7 : Int) (x319003_7 : Int), v105 = .int .i64 x105_7 ∧ Aside0 (conductorlaw01_PackBack.l5 kq l2 (l2.length : Int) x105_7 x319000_7 t315 x319002_7 x319003_7 = some r) ∧ Aside0 (kq ≤ k6) ∧ Aside0 (IsT60 w w' g318 x319000_7 t315 x319002_7 x319003_7) ∧ Aside0 (Below w.heap.size w w'))
                                      case atStart => exact ⟨(0), (x319000_6), (x319002_6), (x319003_6), (by first | rfl | (simp; done) | (simp [*]; done) | (simp [Go.Proofs.Ytdlmkdgcdbkeaaa.Str.isE, Go.Proofs.Ytdlmkdgcdbkeaaa.Str.isE']; done)), H', ⟨Nat.le_refl _⟩, ⟨by repeat (first | (with_reducible first | exact HI318.out | apply IsT60.alloc | apply IsT60.drewN | apply IsT60.drew | apply IsT60.set_0 | apply IsT60.set_2 | apply IsT60.set_3) | exact HI318.out)⟩, ⟨by repeat (first | (with_reducible first | exact HB.out | apply below_alloc | apply pw_below_drewN | apply below_drew1 | refine below_set ?_ (IsT60.ge HI318.out)) | exact HB.out)⟩⟩
                                      case round =>
                                        clear H'
                                        try clear c1
                                        try clear c2
                                        try clear p2
                                        try clear q2
                                        try clear hx2
                                        try clear c3
                                        try clear p3
                                        try clear q3
                                        try clear hx3
                                        try clear c4
                                        try clear c5
                                        try clear c6
                                        try clear p6
                                        try clear c7
                                        try clear c7b0
                                        try clear c7b1
                                        try clear c9
                                        try clear c9b0
                                        try clear c9b1
                                        try clear c10
                                        try clear c12
                                        try clear c13
                                        try clear c14
                                        try clear c16
                                        try clear c16b0
                                        try clear c17
                                        try clear c17b0
                                        try clear c18
                                        try clear c18b0
                                        try clear c20
                                        try clear c21
                                        try clear c22
                                        try clear c28
                                        try clear c28b0
                                        try clear p28
                                        try clear q28
                                        try clear hx28
                                        try clear c29
                                        try clear c29b0
                                        try clear p29
                                        try clear q29
                                        try clear hx29
                                        try clear c30
                                        try clear c30b0
                                        try clear p30
                                        try clear q30
                                        try clear hx30
                                        try clear p31
                                        try clear q31
                                        try clear hx31
                                        try clear p32
                                        try clear q32
                                        try clear hx32
                                        try clear c40
                                        try clear c40b0
                                        try clear c41
                                        try clear c41b0
                                        try clear c42
                                        try clear c42b0
                                        try clear c43
                                        try clear c43b0
                                        try clear c43b1
                                        try clear c56
                                        try clear c56b0
                                        try clear c57
                                        try clear c57b0
                                        try clear c58
                                        try clear c58b0
                                        try clear c60
                                        try clear c60b0
                                        try clear c60b1
                                        try clear c63
                                        try clear c63b0
                                        try clear c64
                                        try clear c64b0
                                        try clear p64
                                        try clear c65
                                        try clear c65b0
                                        try clear c67
                                        try clear c67b0
                                        try clear c67b1
                                        try clear hx284_0
                                        try clear hx294_0
                                        try clear hx304_0
                                        try clear hx319_0
                                        try clear hx324_0
                                        try clear p2
                                        try clear p28
                                        try clear p284
                                        try clear p29
                                        try clear p294
                                        try clear p3
                                        try clear p30
                                        try clear p304
                                        try clear p31
                                        try clear p319
                                        try clear p324
                                        try clear p6
                                        try clear q2
                                        try clear q28
                                        try clear q284
                                        try clear q29
                                        try clear q294
                                        try clear q3
                                        try clear q30
                                        try clear q304
                                        try clear q31
                                        try clear q319
                                        try clear q324
                                        obtain ⟨x105_7, x319000_7, x319002_7, x319003_7, rfl, HA, HK7, HI318, HB⟩ := hrel
                                        cases gk with
                                        | zero => exact absurd HA.out (by simp [conductorlaw01_PackBack.l5])
                                        | succ k7 =>
                                          have H := HA.out
                                          clear HA
                                          simp only [conductorlaw01_PackBack.l5] at H
                                          by_cases c70 : x105_7 < (l2.length : Int)
                                          · rw [if_pos c70] at H
                                            have c70b0 : decide (x105_7 < (l2.length : Int)) = true := decide_eq_true c70
                                            clear c70
                                            by_cases c71 : 0 ≤ x105_7
                                            · rw [if_pos c71] at H
                                              have c71b0 : decide (0 ≤ x105_7) = true := decide_eq_true c71
                                              clear c71
                                              by_cases c72 : x105_7 < (l2.length : Int)
                                              · rw [if_pos c72] at H
                                                have c72b0 : decide (x105_7 < (l2.length : Int)) = true := decide_eq_true c72
                                                clear c72
                                                replace H := Option.bind_eq_some_iff.mp H
                                                obtain ⟨⟨t330, t331, t332, t333⟩, A730, H⟩ := H
                                                replace H : (if t330.toList = (rdOf ByteArray.empty l2 x105_7).toList then (conductorlaw01_PackBack.l5 k7 l2 (l2.length : Int) (wrap64 (x105_7 + 1)) t331 t315 t332 t333) else (some false)) = some r := H
                                                have A73 := Aside0.mk A730
                                                clear A730
                                                by_cases c74 : t330.toList = (rdOf ByteArray.empty l2 x105_7).toList
                                                · rw [if_pos c74] at H
                                                  have c74b0 : (t330.toList == (rdOf ByteArray.empty l2 x105_7).toList) = true := beq_iff_eq.mpr c74
                                                  have c74b1 : (t330.toList != (rdOf ByteArray.empty l2 x105_7).toList) = false := bne_eq_false_iff_eq.mpr c74
                                                  clear c74
                                                  have H' := Aside0.mk H
                                                  clear H
                                                  have p329 : 0 ≤ (x105_7 : Int) := of_decide_eq_true (by first | (with_reducible assumption) | assumption)
                                                  have q329 : x105_7 < (l2.length : Int) := of_decide_eq_true (by first | (with_reducible assumption) | assumption)
                                                  obtain ⟨ad329, e329, hx329_0⟩ := Kd.at_string HR2.out x105_7 p329 q329
                                                  cases e329
                                                  replace hx329_0 := (HB.out.cell (World.block_lt_of_cell? w _ hx329_0)).trans hx329_0
                                                  replace p329 := eq_true p329
                                                  replace q329 := eq_true q329
                                                  go_wp2_with (first | ((with_reducible refine gate_callee (f := 23) rfl ?_); refine goesL_ (some 112) rfl rfl Try.func23 (by kernel_rfl) rfl #[.pointer (some ⟨g318, 0, none⟩), .int .i64 ((rdOf ByteArray.empty l2 x105_7).size : Int)] rfl (by (try simp only [List.map_toArray, List.map_cons, List.map_nil]); first | done | rfl | (simp only [List.length_drop, List.length_take]; rfl)) ?_; (with_reducible refine (pack_Reader_Text.callsT k7 g318 x319000_7 t315 x319002_7 x319003_7 ((rdOf ByteArray.empty l2 x105_7).size : Int) t330 t331 t332 t333 w _ ?side1 ?side2 A73.out).mono ?_); (case side1 => repeat (first | (with_reducible first | exact HI318.out | apply IsT60.alloc | apply IsT60.drewN | apply IsT60.drew | apply IsT60.set_0 | apply IsT60.set_2 | apply IsT60.set_3) | exact HI318.out)); (case side2 => repeat (first | (with_reducible first | exact HB.out | apply below_alloc | apply pw_below_drewN | apply below_drew1 | refine below_set ?_ (IsT60.ge HI318.out)) | exact HB.out)); rintro e w75 ⟨rfl, hi, hb, hk⟩; refine ⟨_, rfl, ?_⟩; have n0_ := Aside0.mk (hb); have n1_ := Aside0.mk (hi); clear HB; clear HI318; have HB := n0_; have HI318 := n1_; clear n0_ n1_; (try clear hb); (try clear hb2); (try clear hk); (try clear hi)))
                                                  go_roundg k7
                                                  case measure => have := HJ3.out; have := HK2.out; have := HK3.out; have := HK4.out; have := HK5.out; have := HK6.out; have := HK7.out; omega
                                                  case rel => exact ⟨(wrap64 (x105_7 + 1)), (t331), (t332), (t333), (by first | rfl | (simp; done) | (simp [*]; done) | (simp [Go.Proofs.Ytdlmkdgcdbkeaaa.Str.isE, Go.Proofs.Ytdlmkdgcdbkeaaa.Str.isE']; done)), H', ⟨by have := HJ3.out; have := HK2.out; have := HK3.out; have := HK4.out; have := HK5.out; have := HK6.out; have := HK7.out; omega⟩, ⟨by repeat (first | (with_reducible first | exact HI318.out | apply IsT60.alloc | apply IsT60.drewN | apply IsT60.drew | apply IsT60.set_0 | apply IsT60.set_2 | apply IsT60.set_3) | exact HI318.out)⟩, ⟨by repeat (first | (with_reducible first | exact HB.out | apply below_alloc | apply pw_below_drewN | apply below_drew1 | refine below_set ?_ (IsT60.ge HI318.out)) | exact HB.out)⟩⟩
                                                · rw [if_neg c74] at H
                                                  have c74b0 : (t330.toList == (rdOf ByteArray.empty l2 x105_7).toList) = false := beq_eq_false_iff_ne.mpr c74
                                                  have c74b1 : (t330.toList != (rdOf ByteArray.empty l2 x105_7).toList) = true := bne_iff_ne.mpr c74
                                                  obtain rfl := Option.some.inj H
                                                  have p329 : 0 ≤ (x105_7 : Int) := of_decide_eq_true (by first | (with_reducible assumption) | assumption)
                                                  have q329 : x105_7 < (l2.length : Int) := of_decide_eq_true (by first | (with_reducible assumption) | assumption)
                                                  obtain ⟨ad329, e329, hx329_0⟩ := Kd.at_string HR2.out x105_7 p329 q329
                                                  cases e329
                                                  replace hx329_0 := (HB.out.cell (World.block_lt_of_cell? w _ hx329_0)).trans hx329_0
                                                  replace p329 := eq_true p329
                                                  replace q329 := eq_true q329
                                                  go_wp2_with (first | ((with_reducible refine gate_callee (f := 23) rfl ?_); refine goesL_ (some 112) rfl rfl Try.func23 (by kernel_rfl) rfl #[.pointer (some ⟨g318, 0, none⟩), .int .i64 ((rdOf ByteArray.empty l2 x105_7).size : Int)] rfl (by (try simp only [List.map_toArray, List.map_cons, List.map_nil]); first | done | rfl | (simp only [List.length_drop, List.length_take]; rfl)) ?_; (with_reducible refine (pack_Reader_Text.callsT k7 g318 x319000_7 t315 x319002_7 x319003_7 ((rdOf ByteArray.empty l2 x105_7).size : Int) t330 t331 t332 t333 w _ ?side1 ?side2 A73.out).mono ?_); (case side1 => repeat (first | (with_reducible first | exact HI318.out | apply IsT60.alloc | apply IsT60.drewN | apply IsT60.drew | apply IsT60.set_0 | apply IsT60.set_2 | apply IsT60.set_3) | exact HI318.out)); (case side2 => repeat (first | (with_reducible first | exact HB.out | apply below_alloc | apply pw_below_drewN | apply below_drew1 | refine below_set ?_ (IsT60.ge HI318.out)) | exact HB.out)); rintro e w76 ⟨rfl, hi, hb, hk⟩; refine ⟨_, rfl, ?_⟩; have n0_ := Aside0.mk (hb); have n1_ := Aside0.mk (hi); clear HB; clear HI318; have HB := n0_; have HI318 := n1_; clear n0_ n1_; (try clear hb); (try clear hb2); (try clear hk); (try clear hi)))
                                                  go_ret
                                                  exact ⟨by first | rfl | (simp [errW_none, errW_some] <;> rfl) | (simp [*, errW_none, errW_some] <;> rfl), by repeat (first | (with_reducible first | exact HB.out | apply below_alloc | apply pw_below_drewN | apply below_drew1 | refine below_set ?_ (IsT60.ge HI318.out)) | exact HB.out)⟩
                                              · rw [if_neg c72] at H
                                                exact absurd H (by simp)
                                            · rw [if_neg c71] at H
                                              exact absurd H (by simp)
                                          · rw [if_neg c70] at H
                                            have c70b0 : decide (x105_7 < (l2.length : Int)) = false := decide_eq_false c70
                                            clear c70
                                            replace H := Option.bind_eq_some_iff.mp H
                                            obtain ⟨⟨t334, t335, t336, t337⟩, A770, H⟩ := H
                                            replace H : (if t334 = 0 then ((pack_Reader_Left.f t335 t315 t336 t337).bind fun bt338 => (some (bt338.1 == 0))) else (some false)) = some r := H
                                            have A77 := Aside0.mk A770
                                            clear A770
                                            by_cases c78 : t334 = 0
                                            · rw [if_pos c78] at H
                                              have c78b0 : (t334 == 0) = true := beq_iff_eq.mpr c78
                                              have c78b1 : (t334 != 0) = false := bne_eq_false_iff_eq.mpr c78
                                              clear c78
                                              replace H := Option.bind_eq_some_iff.mp H
                                              obtain ⟨⟨t338, t339, t340, t341⟩, A790, H⟩ := H
                                              replace H : (some (t338 == 0)) = some r := H
                                              have A79 := Aside0.mk A790
                                              clear A790
                                              obtain rfl := Option.some.inj H
                                              go_wp2_with (first | ((with_reducible refine gate_callee (f := 26) rfl ?_); refine goesL_ (some 117) rfl rfl Try.func26 (by kernel_rfl) rfl #[.pointer (some ⟨g318, 0, none⟩)] rfl (by (try simp only [List.map_toArray, List.map_cons, List.map_nil]); first | done | rfl | (simp only [List.length_drop, List.length_take]; rfl)) ?_; (with_reducible refine (pack_Reader_End.callsT g318 x319000_7 t315 x319002_7 x319003_7 t334 t335 t336 t337 w _ ?side1 ?side2 A77.out).mono ?_); (case side1 => repeat (first | (with_reducible first | exact HI318.out | apply IsT60.alloc | apply IsT60.drewN | apply IsT60.drew | apply IsT60.set_0 | apply IsT60.set_2 | apply IsT60.set_3) | exact HI318.out)); (case side2 => repeat (first | (with_reducible first | exact HB.out | apply below_alloc | apply pw_below_drewN | apply below_drew1 | refine below_set ?_ (IsT60.ge HI318.out)) | exact HB.out)); rintro e w80 ⟨rfl, hi, hb, hk⟩; refine ⟨_, rfl, ?_⟩; have n0_ := Aside0.mk (hb); have n1_ := Aside0.mk (hi); clear HB; clear HI318; have HB := n0_; have HI318 := n1_; clear n0_ n1_; (try clear hb); (try clear hb2); (try clear hk); (try clear hi)) | (go_at_call 25; (with_reducible refine (pack_Reader_Left.callsT g318 t335 t315 t336 t337 t338 t339 t340 t341 w _ ?side1 ?side2 A79.out).mono ?_); (case side1 => repeat (first | (with_reducible first | exact HI318.out | apply IsT60.alloc | apply IsT60.drewN | apply IsT60.drew | apply IsT60.set_0 | apply IsT60.set_2 | apply IsT60.set_3) | exact HI318.out)); (case side2 => repeat (first | (with_reducible first | exact HB.out | apply below_alloc | apply pw_below_drewN | apply below_drew1 | refine below_set ?_ (IsT60.ge HI318.out)) | exact HB.out)); rintro e w81 ⟨rfl, hi, hb, hk⟩; have n0_ := Aside0.mk (hb); have n1_ := Aside0.mk (hi); clear HB; clear HI318; have HB := n0_; have HI318 := n1_; clear n0_ n1_; (try clear hb); (try clear hb2); (try clear hk); (try clear hi)))
                                              go_ret
                                              exact ⟨by first | rfl | (simp [errW_none, errW_some] <;> rfl) | (simp [*, errW_none, errW_some] <;> rfl), by repeat (first | (with_reducible first | exact HB.out | apply below_alloc | apply pw_below_drewN | apply below_drew1 | refine below_set ?_ (IsT60.ge HI318.out)) | exact HB.out)⟩
                                            · rw [if_neg c78] at H
                                              have c78b0 : (t334 == 0) = false := beq_eq_false_iff_ne.mpr c78
                                              have c78b1 : (t334 != 0) = true := bne_iff_ne.mpr c78
                                              obtain rfl := Option.some.inj H
                                              go_wp2_with (first | ((with_reducible refine gate_callee (f := 26) rfl ?_); refine goesL_ (some 117) rfl rfl Try.func26 (by kernel_rfl) rfl #[.pointer (some ⟨g318, 0, none⟩)] rfl (by (try simp only [List.map_toArray, List.map_cons, List.map_nil]); first | done | rfl | (simp only [List.length_drop, List.length_take]; rfl)) ?_; (with_reducible refine (pack_Reader_End.callsT g318 x319000_7 t315 x319002_7 x319003_7 t334 t335 t336 t337 w _ ?side1 ?side2 A77.out).mono ?_); (case side1 => repeat (first | (with_reducible first | exact HI318.out | apply IsT60.alloc | apply IsT60.drewN | apply IsT60.drew | apply IsT60.set_0 | apply IsT60.set_2 | apply IsT60.set_3) | exact HI318.out)); (case side2 => repeat (first | (with_reducible first | exact HB.out | apply below_alloc | apply pw_below_drewN | apply below_drew1 | refine below_set ?_ (IsT60.ge HI318.out)) | exact HB.out)); rintro e w82 ⟨rfl, hi, hb, hk⟩; refine ⟨_, rfl, ?_⟩; have n0_ := Aside0.mk (hb); have n1_ := Aside0.mk (hi); clear HB; clear HI318; have HB := n0_; have HI318 := n1_; clear n0_ n1_; (try clear hb); (try clear hb2); (try clear hk); (try clear hi)))
                                              go_ret
                                              exact ⟨by first | rfl | (simp [errW_none, errW_some] <;> rfl) | (simp [*, errW_none, errW_some] <;> rfl), by repeat (first | (with_reducible first | exact HB.out | apply below_alloc | apply pw_below_drewN | apply below_drew1 | refine below_set ?_ (IsT60.ge HI318.out)) | exact HB.out)⟩

end Go.Proofs.Ytdlmkdgcdbkeaaa.Z
