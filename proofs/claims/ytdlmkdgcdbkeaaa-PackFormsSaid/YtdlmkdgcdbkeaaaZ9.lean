/- Each Go function that the statements reach, as a plain Lean function, and a proof that the call comes to what it says. -/
import Derived.Test.YtdlmkdgcdbkeaaaZ0
import Derived.Test.YtdlmkdgcdbkeaaaZ1
import Derived.Test.YtdlmkdgcdbkeaaaZ2
import Derived.Test.YtdlmkdgcdbkeaaaZ3
import Derived.Test.YtdlmkdgcdbkeaaaZ5
import Derived.Test.YtdlmkdgcdbkeaaaZ6
import Derived.Test.YtdlmkdgcdbkeaaaZ7
import Derived.Test.YtdlmkdgcdbkeaaaZ8
namespace Go.Proofs.Ytdlmkdgcdbkeaaa.Z
open Go.RowKit Go.Proofs.YtdlmkdgcdbkeaaaW.PrintWords Go.Proofs.YtdlmkdgcdbkeaaaW.PrintLast Go.Proofs.YtdlmkdgcdbkeaaaW.PrintMore
attribute [local go_sem] max2_int min2_int max_two min_two max_three min_three max_four min_four   -- for this text's walks alone
attribute [local go_sem] Go.Proofs.Ytdlmkdgcdbkeaaa.Str.gtr_str Go.Proofs.Ytdlmkdgcdbkeaaa.Str.leq_str Go.Proofs.Ytdlmkdgcdbkeaaa.Str.geq_str
set_option linter.unusedVariables false
set_option linter.unusedSimpArgs false

/-! ### conductorlaw01_PackForms: function 5 -/
mutual
def conductorlaw01_PackForms.j0 : Nat → List Int → Int → Bool → Option (Bool)
  | 0, _, _, _ => none
  | k + 1, x0, x1, x14 => if x14 = true then ((conductorlaw01_live.f k).bind fun t233 => (some t233)) else ((pack_Read.f k x0).bind fun bt234 => (if (Int.tmod x1 3) = 0 then ((pack_Reader_Uint.f k bt234.1 bt234.2.1 bt234.2.2.1 bt234.2.2.2 18446744073709551615).bind fun bt239 => ((pack_Uint.f k bt239.1).bind fun t243 => (conductorlaw01_PackForms.j1 k x0 t243 bt239.2.1 bt234.2.1 bt239.2.2.1 bt239.2.2.2))) else (if (Int.tmod x1 3) = 1 then ((pack_Reader_Int.f k bt234.1 bt234.2.1 bt234.2.2.1 bt234.2.2.2).bind fun bt246 => ((pack_Int.f k bt246.1).bind fun t250 => (conductorlaw01_PackForms.j1 k x0 t250 bt246.2.1 bt234.2.1 bt246.2.2.1 bt246.2.2.2))) else (if (Int.tmod x1 3) = 2 then ((pack_Reader_Text.f k bt234.1 bt234.2.1 bt234.2.2.1 bt234.2.2.2 (x0.length : Int)).bind fun bt253 => ((pack_Text.f k bt253.1).bind fun t257 => (conductorlaw01_PackForms.j1 k x0 t257 bt253.2.1 bt234.2.1 bt253.2.2.1 bt253.2.2.2))) else (conductorlaw01_PackForms.j1 k x0 ([] : List Int) bt234.1 bt234.2.1 bt234.2.2.1 bt234.2.2.2)))))
def conductorlaw01_PackForms.j1 : Nat → List Int → List Int → Bool → List Int → Int → Int → Option (Bool)
  | 0, _, _, _, _, _, _ => none
  | k + 1, x0, x6, x239000, x239001, x239002, x239003 => (pack_Reader_Err.f x239000 x239001 x239002 x239003).bind fun bt260 => (if bt260.1 = 0 then ((pack_Reader_Left.f bt260.2.1 x239001 bt260.2.2.1 bt260.2.2.2).bind fun bt264 => (if (wrap64 ((x0.length : Int) - bt264.1)) > 0 then (if 0 ≤ (wrap64 ((x0.length : Int) - bt264.1)) then (if (wrap64 ((x0.length : Int) - bt264.1)) ≤ (x0.length : Int) then ((conductorref01_Equal.f x6 (x0.take ((wrap64 ((x0.length : Int) - bt264.1)) : Int).toNat)).bind fun t269 => (some t269)) else (none)) else (none)) else (some false))) else ((pack_Reader_Left.f bt260.2.1 x239001 bt260.2.2.1 bt260.2.2.2).bind fun bt270 => (some (bt270.1 == (x0.length : Int)))))
end
def conductorlaw01_PackForms.f (k : Nat) (l0 : List Int) (a1 : Int) : Option (Bool) := (conductorlaw01_live.f k).bind fun t232 => (if t232 = true then (conductorlaw01_PackForms.j0 k l0 a1 (decide ((l0.length : Int) > 65536))) else (conductorlaw01_PackForms.j0 k l0 a1 true))
theorem conductorlaw01_PackForms.mono_l : ∀ k, (∀ y0 y1 y2, LeO (conductorlaw01_PackForms.j0 k y0 y1 y2) (conductorlaw01_PackForms.j0 (k + 1) y0 y1 y2)) ∧ (∀ y0 y1 y2 y3 y4 y5, LeO (conductorlaw01_PackForms.j1 k y0 y1 y2 y3 y4 y5) (conductorlaw01_PackForms.j1 (k + 1) y0 y1 y2 y3 y4 y5))
  | 0 => ⟨fun _ _ _ r h => by simp [conductorlaw01_PackForms.j0] at h, fun _ _ _ _ _ _ r h => by simp [conductorlaw01_PackForms.j1] at h⟩
  | k + 1 => by
    obtain ⟨ih0, ih1⟩ := conductorlaw01_PackForms.mono_l k
    refine ⟨?_, ?_⟩
    · intro y0 y1 y2
      unfold conductorlaw01_PackForms.j0
      repeat' first
      | (with_reducible exact ih0 _ _ _)
      | (with_reducible exact ih1 _ _ _ _ _ _)
      | (with_reducible exact conductorlaw01_live.mono _)
      | (with_reducible exact pack_Int.mono _ _)
      | (with_reducible exact pack_Read.mono _ _)
      | (with_reducible exact pack_Reader_Int.mono _ _ _ _ _)
      | (with_reducible exact pack_Reader_Text.mono _ _ _ _ _ _)
      | (with_reducible exact pack_Reader_Uint.mono _ _ _ _ _ _)
      | (with_reducible exact pack_Text.mono _ _)
      | (with_reducible exact pack_Uint.mono _ _)
      | (with_reducible exact LeO.refl _)
      | (with_reducible exact LeO.none _)
      | (with_reducible refine LeO.ite ?_ ?_)
      | (with_reducible refine LeO.bind ?_ (fun _ => ?_))
      | exact ih0 _ _ _
      | exact ih1 _ _ _ _ _ _
      | exact conductorlaw01_live.mono _
      | exact pack_Int.mono _ _
      | exact pack_Read.mono _ _
      | exact pack_Reader_Int.mono _ _ _ _ _
      | exact pack_Reader_Text.mono _ _ _ _ _ _
      | exact pack_Reader_Uint.mono _ _ _ _ _ _
      | exact pack_Text.mono _ _
      | exact pack_Uint.mono _ _
      | exact LeO.none _
      | refine LeO.ite ?_ ?_
      | refine LeO.bind ?_ (fun _ => ?_)
    · intro y0 y1 y2 y3 y4 y5
      unfold conductorlaw01_PackForms.j1
      repeat' first
      | (with_reducible exact ih0 _ _ _)
      | (with_reducible exact ih1 _ _ _ _ _ _)
      | (with_reducible exact conductorlaw01_live.mono _)
      | (with_reducible exact pack_Int.mono _ _)
      | (with_reducible exact pack_Read.mono _ _)
      | (with_reducible exact pack_Reader_Int.mono _ _ _ _ _)
      | (with_reducible exact pack_Reader_Text.mono _ _ _ _ _ _)
      | (with_reducible exact pack_Reader_Uint.mono _ _ _ _ _ _)
      | (with_reducible exact pack_Text.mono _ _)
      | (with_reducible exact pack_Uint.mono _ _)
      | (with_reducible exact LeO.refl _)
      | (with_reducible exact LeO.none _)
      | (with_reducible refine LeO.ite ?_ ?_)
      | (with_reducible refine LeO.bind ?_ (fun _ => ?_))
      | exact ih0 _ _ _
      | exact ih1 _ _ _ _ _ _
      | exact conductorlaw01_live.mono _
      | exact pack_Int.mono _ _
      | exact pack_Read.mono _ _
      | exact pack_Reader_Int.mono _ _ _ _ _
      | exact pack_Reader_Text.mono _ _ _ _ _ _
      | exact pack_Reader_Uint.mono _ _ _ _ _ _
      | exact pack_Text.mono _ _
      | exact pack_Uint.mono _ _
      | exact LeO.none _
      | refine LeO.ite ?_ ?_
      | refine LeO.bind ?_ (fun _ => ?_)
theorem conductorlaw01_PackForms.mono : ∀ a0 a1 k, LeO (conductorlaw01_PackForms.f k a0 a1) (conductorlaw01_PackForms.f (k + 1) a0 a1) := by
  intro a0 a1 k
  obtain ⟨ih0, ih1⟩ := conductorlaw01_PackForms.mono_l k
  unfold conductorlaw01_PackForms.f
  repeat' first
      | (with_reducible exact ih0 _ _ _)
      | (with_reducible exact ih1 _ _ _ _ _ _)
      | (with_reducible exact conductorlaw01_live.mono _)
      | (with_reducible exact pack_Int.mono _ _)
      | (with_reducible exact pack_Read.mono _ _)
      | (with_reducible exact pack_Reader_Int.mono _ _ _ _ _)
      | (with_reducible exact pack_Reader_Text.mono _ _ _ _ _ _)
      | (with_reducible exact pack_Reader_Uint.mono _ _ _ _ _ _)
      | (with_reducible exact pack_Text.mono _ _)
      | (with_reducible exact pack_Uint.mono _ _)
      | (with_reducible exact LeO.refl _)
      | (with_reducible exact LeO.none _)
      | (with_reducible refine LeO.ite ?_ ?_)
      | (with_reducible refine LeO.bind ?_ (fun _ => ?_))
      | exact ih0 _ _ _
      | exact ih1 _ _ _ _ _ _
      | exact conductorlaw01_live.mono _
      | exact pack_Int.mono _ _
      | exact pack_Read.mono _ _
      | exact pack_Reader_Int.mono _ _ _ _ _
      | exact pack_Reader_Text.mono _ _ _ _ _ _
      | exact pack_Reader_Uint.mono _ _ _ _ _ _
      | exact pack_Text.mono _ _
      | exact pack_Uint.mono _ _
      | exact LeO.none _
      | refine LeO.ite ?_ ?_
      | refine LeO.bind ?_ (fun _ => ?_)
set_option maxHeartbeats 8000000 in
set_option maxRecDepth 100000 in
theorem conductorlaw01_PackForms.calls (k : Nat) (A0 : Option Addr) (c0 : Nat) (l0 : List Int) (a1 : Int) (r : Bool) (w : World) (hr0 : Kd.C (Kd.int .u8) w A0 l0.length l0) (hc0 : l0.length ≤ c0) (h : conductorlaw01_PackForms.f k l0 a1 = some r) :
    Calls Try.prog 5 #[.slice A0 l0.length c0, .int .u8 a1] w fun e w' => e = .returned (.bool r) ∧ Below w.heap.size w w' := by
  have HR0 := Aside0.mk hr0
  have HC0 := Aside0.mk hc0
  clear hr0 hc0
  have HB := Aside0.mk (Below.refl w.heap.size w)
  have H : ((conductorlaw01_live.f k).bind fun t232 => (if t232 = true then (conductorlaw01_PackForms.j0 k l0 a1 (decide ((l0.length : Int) > 65536))) else (conductorlaw01_PackForms.j0 k l0 a1 true))) = some r := h
  clear h
  have HC3 := Aside0.mk H
  clear H
  go_enter Try.func5, Try.ntmps5
  go_upto_region 1 with (fail)
  go_cut [14] (fun v14 wc => ∃ (kq : Nat) (x14_2 : Bool), v14 = .bool x14_2 ∧ Aside0 (conductorlaw01_PackForms.j0 kq l0 a1 x14_2 = some r) ∧ Aside0 (kq ≤ k) ∧ Aside0 (Below w.heap.size w wc))
  case first =>
    have H := HC3.out
    clear HC3
    replace H := Option.bind_eq_some_iff.mp H
    obtain ⟨t232, A40, H⟩ := H
    replace H : (if t232 = true then (conductorlaw01_PackForms.j0 k l0 a1 (decide ((l0.length : Int) > 65536))) else (conductorlaw01_PackForms.j0 k l0 a1 true)) = some r := H
    have A4 := Aside0.mk A40
    clear A40
    by_cases c5 : t232 = true
    · subst c5
      have H1 : (conductorlaw01_PackForms.j0 k l0 a1 (decide ((l0.length : Int) > 65536))) = some r := by rw [if_pos rfl] at H; exact H
      clear H
      have H := H1
      clear H1
      have H' := Aside0.mk H
      clear H
      go_wp2_with (first | ((with_reducible refine gate_callee (f := 10) rfl ?_); refine goesL_ (some 8) rfl rfl Try.func10 (by kernel_rfl) rfl #[] rfl (by (try simp only [List.map_toArray, List.map_cons, List.map_nil]); first | done | rfl | (simp only [List.length_drop, List.length_take]; rfl)) ?_; (with_reducible refine (conductorlaw01_live.calls k  true _ A4.out).mono ?_); rintro e w6 ⟨rfl, hb⟩; refine ⟨_, rfl, ?_⟩; have n0_ := Aside0.mk (below_step (by repeat (first | (with_reducible first | exact HB.out | apply below_alloc | apply pw_below_drewN | apply below_drew1) | exact HB.out)) hb); clear HB; have HB := n0_; clear n0_; (try clear hb); (try clear hb2); (try clear hk); (try clear hi)))
      go_meet
      case rel => exact ⟨_, (decide ((l0.length : Int) > 65536)), (by first | rfl | (simp; done) | (simp [*]; done) | (simp [Go.Proofs.Ytdlmkdgcdbkeaaa.Str.isE, Go.Proofs.Ytdlmkdgcdbkeaaa.Str.isE']; done)), H', ⟨by first | omega | exact Nat.le_refl _⟩, ⟨by repeat (first | (with_reducible first | exact HB.out | apply below_alloc | apply pw_below_drewN | apply below_drew1) | exact HB.out)⟩⟩
    · replace c5 := Bool.eq_false_iff.mpr c5
      subst c5
      have H1 : (conductorlaw01_PackForms.j0 k l0 a1 true) = some r := by rw [if_neg (show ¬ (false = true) by decide)] at H; exact H
      clear H
      have H := H1
      clear H1
      have H' := Aside0.mk H
      clear H
      go_wp2_with (first | ((with_reducible refine gate_callee (f := 10) rfl ?_); refine goesL_ (some 8) rfl rfl Try.func10 (by kernel_rfl) rfl #[] rfl (by (try simp only [List.map_toArray, List.map_cons, List.map_nil]); first | done | rfl | (simp only [List.length_drop, List.length_take]; rfl)) ?_; (with_reducible refine (conductorlaw01_live.calls k  false _ A4.out).mono ?_); rintro e w7 ⟨rfl, hb⟩; refine ⟨_, rfl, ?_⟩; have n0_ := Aside0.mk (below_step (by repeat (first | (with_reducible first | exact HB.out | apply below_alloc | apply pw_below_drewN | apply below_drew1) | exact HB.out)) hb); clear HB; have HB := n0_; clear n0_; (try clear hb); (try clear hb2); (try clear hk); (try clear hi)))
      go_meet
      case rel => exact ⟨_, (true), (by first | rfl | (simp; done) | (simp [*]; done) | (simp [Go.Proofs.Ytdlmkdgcdbkeaaa.Str.isE, Go.Proofs.Ytdlmkdgcdbkeaaa.Str.isE']; done)), H', ⟨by first | omega | exact Nat.le_refl _⟩, ⟨by repeat (first | (with_reducible first | exact HB.out | apply below_alloc | apply pw_below_drewN | apply below_drew1) | exact HB.out)⟩⟩
  case rest =>
    clear HC3
    try clear c1
    try clear p2
    try clear c5
    obtain ⟨kq, x14_2, rfl, HA, HJ2, HB⟩ := hcut
    cases kq with
    | zero => exact absurd HA.out (by simp [conductorlaw01_PackForms.j0])
    | succ kj2 =>
      have H := HA.out
      clear HA
      simp only [conductorlaw01_PackForms.j0] at H
      by_cases c8 : x14_2 = true
      · subst c8
        have H1 : ((conductorlaw01_live.f kj2).bind fun t233 => (some t233)) = some r := by rw [if_pos rfl] at H; exact H
        clear H
        have H := H1
        clear H1
        replace H := Option.bind_eq_some_iff.mp H
        obtain ⟨t233, A90, H⟩ := H
        replace H : (some t233) = some r := H
        have A9 := Aside0.mk A90
        clear A90
        obtain rfl := Option.some.inj H
        go_wp2_with (first | ((with_reducible refine gate_callee (f := 10) rfl ?_); refine goesL_ (some 15) rfl rfl Try.func10 (by kernel_rfl) rfl #[] rfl (by (try simp only [List.map_toArray, List.map_cons, List.map_nil]); first | done | rfl | (simp only [List.length_drop, List.length_take]; rfl)) ?_; (with_reducible refine (conductorlaw01_live.calls kj2  t233 _ A9.out).mono ?_); rintro e w10 ⟨rfl, hb⟩; refine ⟨_, rfl, ?_⟩; have n0_ := Aside0.mk (below_step (by repeat (first | (with_reducible first | exact HB.out | apply below_alloc | apply pw_below_drewN | apply below_drew1) | exact HB.out)) hb); clear HB; have HB := n0_; clear n0_; (try clear hb); (try clear hb2); (try clear hk); (try clear hi)))
        go_ret
        exact ⟨by first | rfl | (simp [errW_none, errW_some] <;> rfl) | (simp [*, errW_none, errW_some] <;> rfl), by repeat (first | (with_reducible first | exact HB.out | apply below_alloc | apply pw_below_drewN | apply below_drew1) | exact HB.out)⟩
      · replace c8 := Bool.eq_false_iff.mpr c8
        subst c8
        have H1 : ((pack_Read.f kj2 l0).bind fun bt234 => (if (Int.tmod a1 3) = 0 then ((pack_Reader_Uint.f kj2 bt234.1 bt234.2.1 bt234.2.2.1 bt234.2.2.2 18446744073709551615).bind fun bt239 => ((pack_Uint.f kj2 bt239.1).bind fun t243 => (conductorlaw01_PackForms.j1 kj2 l0 t243 bt239.2.1 bt234.2.1 bt239.2.2.1 bt239.2.2.2))) else (if (Int.tmod a1 3) = 1 then ((pack_Reader_Int.f kj2 bt234.1 bt234.2.1 bt234.2.2.1 bt234.2.2.2).bind fun bt246 => ((pack_Int.f kj2 bt246.1).bind fun t250 => (conductorlaw01_PackForms.j1 kj2 l0 t250 bt246.2.1 bt234.2.1 bt246.2.2.1 bt246.2.2.2))) else (if (Int.tmod a1 3) = 2 then ((pack_Reader_Text.f kj2 bt234.1 bt234.2.1 bt234.2.2.1 bt234.2.2.2 (l0.length : Int)).bind fun bt253 => ((pack_Text.f kj2 bt253.1).bind fun t257 => (conductorlaw01_PackForms.j1 kj2 l0 t257 bt253.2.1 bt234.2.1 bt253.2.2.1 bt253.2.2.2))) else (conductorlaw01_PackForms.j1 kj2 l0 ([] : List Int) bt234.1 bt234.2.1 bt234.2.2.1 bt234.2.2.2))))) = some r := by rw [if_neg (show ¬ (false = true) by decide)] at H; exact H
        clear H
        have H := H1
        clear H1
        replace H := Option.bind_eq_some_iff.mp H
        obtain ⟨⟨t234, t235, t236, t237⟩, A110, H⟩ := H
        replace H : (if (Int.tmod a1 3) = 0 then ((pack_Reader_Uint.f kj2 t234 t235 t236 t237 18446744073709551615).bind fun bt239 => ((pack_Uint.f kj2 bt239.1).bind fun t243 => (conductorlaw01_PackForms.j1 kj2 l0 t243 bt239.2.1 t235 bt239.2.2.1 bt239.2.2.2))) else (if (Int.tmod a1 3) = 1 then ((pack_Reader_Int.f kj2 t234 t235 t236 t237).bind fun bt246 => ((pack_Int.f kj2 bt246.1).bind fun t250 => (conductorlaw01_PackForms.j1 kj2 l0 t250 bt246.2.1 t235 bt246.2.2.1 bt246.2.2.2))) else (if (Int.tmod a1 3) = 2 then ((pack_Reader_Text.f kj2 t234 t235 t236 t237 (l0.length : Int)).bind fun bt253 => ((pack_Text.f kj2 bt253.1).bind fun t257 => (conductorlaw01_PackForms.j1 kj2 l0 t257 bt253.2.1 t235 bt253.2.2.1 bt253.2.2.2))) else (conductorlaw01_PackForms.j1 kj2 l0 ([] : List Int) t234 t235 t236 t237)))) = some r := H
        have A11 := Aside0.mk A110
        clear A110
        have HC12 := Aside0.mk H
        clear H
        go_upto_block 0 with (first | ((with_reducible refine gate_callee (f := 20) rfl ?_); refine goesL_ (some 17) rfl rfl Try.func20 (by kernel_rfl) rfl #[.slice A0 l0.length c0] rfl (by (try simp only [List.map_toArray, List.map_cons, List.map_nil]); first | done | rfl | (simp only [List.length_drop, List.length_take]; rfl)) ?_; (with_reducible refine (pack_Read.calls kj2 _ _ l0 t234 t235 t236 t237 w _ ?side1 ?side2 ?side3 A11.out).mono ?_); (case side1 => repeat (first | (with_reducible first | exact HB.out | apply below_alloc | apply pw_below_drewN | apply below_drew1) | exact HB.out)); (case side2 => repeat (first | exact (Kd.C_below HR0.out HB.out) | (with_reducible refine Kd.C_alloc ?_ _) | (with_reducible refine Kd.C_drewN ?_ _) | (with_reducible refine Kd.C_drew ?_))); (case side3 => exact HC0.out); rintro e w13 ⟨g238, rfl, hi, hb, hb2⟩; refine ⟨_, rfl, ?_⟩; have n0_ := Aside0.mk (hb); have n1_ := Aside0.mk (hi); clear HB; have HB := n0_; have HI238 := n1_; clear n0_ n1_; (try clear hb); (try clear hb2); (try clear hk); (try clear hi)))
        (try simp only [Act.put, List.setIfInBounds_toArray, List.set_cons_zero, List.set_cons_succ])
        go_cut [6] (fun v6 wc => ∃ (kq : Nat) (x6_11 : List Int) (x239000_11 : Bool) (x239002_11 : Int) (x239003_11 : Int), Aside0 (conductorlaw01_PackForms.j1 kq l0 x6_11 x239000_11 t235 x239002_11 x239003_11 = some r) ∧ Aside0 (kq ≤ kj2) ∧ Aside0 (Kd.R (Kd.int .u8) 5 wc w.heap.size (fun _ => True) v6 x6_11) ∧ Aside0 (IsT60 w wc g238 x239000_11 t235 x239002_11 x239003_11) ∧ Aside0 (Below w.heap.size w wc))
        case first =>
          have H := HC12.out
          clear HC12
          by_cases c14 : (Int.tmod a1 3) = 0
          · rw [if_pos c14] at H
            have c14b0 : ((Int.tmod a1 3) == 0) = true := beq_iff_eq.mpr c14
            have c14b1 : ((Int.tmod a1 3) != 0) = false := bne_eq_false_iff_eq.mpr c14
            clear c14
            (first | rw [c14b0] | (simp only [i64_w, i32_w]; rw [c14b0]) | skip)
            replace H := Option.bind_eq_some_iff.mp H
            obtain ⟨⟨t239, t240, t241, t242⟩, A150, H⟩ := H
            replace H : ((pack_Uint.f kj2 t239).bind fun t243 => (conductorlaw01_PackForms.j1 kj2 l0 t243 t240 t235 t241 t242)) = some r := H
            have A15 := Aside0.mk A150
            clear A150
            replace H := Option.bind_eq_some_iff.mp H
            obtain ⟨t243, A160, H⟩ := H
            replace H : (conductorlaw01_PackForms.j1 kj2 l0 t243 t240 t235 t241 t242) = some r := H
            have A16 := Aside0.mk A160
            clear A160
            have H' := Aside0.mk H
            clear H
            go_wp2_with (first | ((with_reducible refine gate_callee (f := 21) rfl ?_); refine goesL_ (some 23) rfl rfl Try.func21 (by kernel_rfl) rfl #[.pointer (some ⟨g238, 0, none⟩), .int .u64 18446744073709551615] rfl (by (try simp only [List.map_toArray, List.map_cons, List.map_nil]); first | done | rfl | (simp only [List.length_drop, List.length_take]; rfl)) ?_; (with_reducible refine (pack_Reader_Uint.callsT kj2 g238 t234 t235 t236 t237 18446744073709551615 t239 t240 t241 t242 w _ ?side1 ?side2 A15.out).mono ?_); (case side1 => repeat (first | (with_reducible first | exact HI238.out | apply IsT60.alloc | apply IsT60.drewN | apply IsT60.drew | apply IsT60.set_0 | apply IsT60.set_2 | apply IsT60.set_3) | exact HI238.out)); (case side2 => repeat (first | (with_reducible first | exact HB.out | apply below_alloc | apply pw_below_drewN | apply below_drew1 | refine below_set ?_ (IsT60.ge HI238.out)) | exact HB.out)); rintro e w17 ⟨rfl, hi, hb, hk⟩; refine ⟨_, rfl, ?_⟩; have n0_ := Aside0.mk (hb); have n1_ := Aside0.mk (hi); clear HB; clear HI238; have HB := n0_; have HI238 := n1_; clear n0_ n1_; (try clear hb); (try clear hb2); (try clear hk); (try clear hi)) | ((with_reducible refine gate_callee (f := 16) rfl ?_); refine goesL_ (some 24) rfl rfl Try.func16 (by kernel_rfl) rfl #[.int .u64 t239] rfl (by (try simp only [List.map_toArray, List.map_cons, List.map_nil]); first | done | rfl | (simp only [List.length_drop, List.length_take]; rfl)) ?_; (with_reducible refine (pack_Uint.calls kj2 t239 t243 _ A16.out).mono ?_); rintro e w18 ⟨v244, rfl, ho0, hb⟩; refine ⟨_, rfl, ?_⟩; have n0_ := Aside0.mk (Kd.R_lower ho0 (below_size (by repeat (first | (with_reducible first | exact HB.out | apply below_alloc | apply pw_below_drewN | apply below_drew1 | refine below_set ?_ (IsT60.ge HI238.out)) | exact HB.out)))); have n1_ := Aside0.mk (IsT60.below (by repeat (first | (with_reducible first | exact HI238.out | apply IsT60.alloc | apply IsT60.drewN | apply IsT60.drew | apply IsT60.set_0 | apply IsT60.set_2 | apply IsT60.set_3) | exact HI238.out)) hb); have n2_ := Aside0.mk (below_step (by repeat (first | (with_reducible first | exact HB.out | apply below_alloc | apply pw_below_drewN | apply below_drew1 | refine below_set ?_ (IsT60.ge HI238.out)) | exact HB.out)) hb); clear HI238; clear HB; have HO245 := n0_; have HI238 := n1_; have HB := n2_; clear n0_ n1_ n2_; (try clear hb); (try clear hb2); (try clear hk); (try clear hi); (try clear ho0)))
            go_meet
            case rel => exact ⟨_, (t243), (t240), (t241), (t242), H', ⟨by have := HJ2.out; first | omega | exact Nat.le_refl _⟩, ⟨by (with_reducible repeat (first | apply Kd.R_alloc | apply Kd.R_drewN | apply Kd.R_drew)); exact HO245.out⟩, ⟨by repeat (first | (with_reducible first | exact HI238.out | apply IsT60.alloc | apply IsT60.drewN | apply IsT60.drew | apply IsT60.set_0 | apply IsT60.set_2 | apply IsT60.set_3) | exact HI238.out)⟩, ⟨by repeat (first | (with_reducible first | exact HB.out | apply below_alloc | apply pw_below_drewN | apply below_drew1 | refine below_set ?_ (IsT60.ge HI238.out)) | exact HB.out)⟩⟩
          · rw [if_neg c14] at H
            have c14b0 : ((Int.tmod a1 3) == 0) = false := beq_eq_false_iff_ne.mpr c14
            have c14b1 : ((Int.tmod a1 3) != 0) = true := bne_iff_ne.mpr c14
            (first | rw [c14b0] | (simp only [i64_w, i32_w]; rw [c14b0]) | skip)
            by_cases c19 : (Int.tmod a1 3) = 1
            · rw [if_pos c19] at H
              have c19b0 : ((Int.tmod a1 3) == 1) = true := beq_iff_eq.mpr c19
              have c19b1 : ((Int.tmod a1 3) != 1) = false := bne_eq_false_iff_eq.mpr c19
              clear c19
              replace H := Option.bind_eq_some_iff.mp H
              obtain ⟨⟨t246, t247, t248, t249⟩, A200, H⟩ := H
              replace H : ((pack_Int.f kj2 t246).bind fun t250 => (conductorlaw01_PackForms.j1 kj2 l0 t250 t247 t235 t248 t249)) = some r := H
              have A20 := Aside0.mk A200
              clear A200
              replace H := Option.bind_eq_some_iff.mp H
              obtain ⟨t250, A210, H⟩ := H
              replace H : (conductorlaw01_PackForms.j1 kj2 l0 t250 t247 t235 t248 t249) = some r := H
              have A21 := Aside0.mk A210
              clear A210
              have H' := Aside0.mk H
              clear H
              go_wp2_with (first | ((with_reducible refine gate_callee (f := 22) rfl ?_); refine goesL_ (some 28) rfl rfl Try.func22 (by kernel_rfl) rfl #[.pointer (some ⟨g238, 0, none⟩)] rfl (by (try simp only [List.map_toArray, List.map_cons, List.map_nil]); first | done | rfl | (simp only [List.length_drop, List.length_take]; rfl)) ?_; (with_reducible refine (pack_Reader_Int.callsT kj2 g238 t234 t235 t236 t237 t246 t247 t248 t249 w _ ?side1 ?side2 A20.out).mono ?_); (case side1 => repeat (first | (with_reducible first | exact HI238.out | apply IsT60.alloc | apply IsT60.drewN | apply IsT60.drew | apply IsT60.set_0 | apply IsT60.set_2 | apply IsT60.set_3) | exact HI238.out)); (case side2 => repeat (first | (with_reducible first | exact HB.out | apply below_alloc | apply pw_below_drewN | apply below_drew1 | refine below_set ?_ (IsT60.ge HI238.out)) | exact HB.out)); rintro e w22 ⟨rfl, hi, hb, hk⟩; refine ⟨_, rfl, ?_⟩; have n0_ := Aside0.mk (hb); have n1_ := Aside0.mk (hi); clear HB; clear HI238; have HB := n0_; have HI238 := n1_; clear n0_ n1_; (try clear hb); (try clear hb2); (try clear hk); (try clear hi)) | ((with_reducible refine gate_callee (f := 18) rfl ?_); refine goesL_ (some 29) rfl rfl Try.func18 (by kernel_rfl) rfl #[.int .i64 t246] rfl (by (try simp only [List.map_toArray, List.map_cons, List.map_nil]); first | done | rfl | (simp only [List.length_drop, List.length_take]; rfl)) ?_; (with_reducible refine (pack_Int.calls kj2 t246 t250 _ A21.out).mono ?_); rintro e w23 ⟨v251, rfl, ho0, hb⟩; refine ⟨_, rfl, ?_⟩; have n0_ := Aside0.mk (Kd.R_lower ho0 (below_size (by repeat (first | (with_reducible first | exact HB.out | apply below_alloc | apply pw_below_drewN | apply below_drew1 | refine below_set ?_ (IsT60.ge HI238.out)) | exact HB.out)))); have n1_ := Aside0.mk (IsT60.below (by repeat (first | (with_reducible first | exact HI238.out | apply IsT60.alloc | apply IsT60.drewN | apply IsT60.drew | apply IsT60.set_0 | apply IsT60.set_2 | apply IsT60.set_3) | exact HI238.out)) hb); have n2_ := Aside0.mk (below_step (by repeat (first | (with_reducible first | exact HB.out | apply below_alloc | apply pw_below_drewN | apply below_drew1 | refine below_set ?_ (IsT60.ge HI238.out)) | exact HB.out)) hb); clear HI238; clear HB; have HO252 := n0_; have HI238 := n1_; have HB := n2_; clear n0_ n1_ n2_; (try clear hb); (try clear hb2); (try clear hk); (try clear hi); (try clear ho0)))
              go_meet
              case rel => exact ⟨_, (t250), (t247), (t248), (t249), H', ⟨by have := HJ2.out; first | omega | exact Nat.le_refl _⟩, ⟨by (with_reducible repeat (first | apply Kd.R_alloc | apply Kd.R_drewN | apply Kd.R_drew)); exact HO252.out⟩, ⟨by repeat (first | (with_reducible first | exact HI238.out | apply IsT60.alloc | apply IsT60.drewN | apply IsT60.drew | apply IsT60.set_0 | apply IsT60.set_2 | apply IsT60.set_3) | exact HI238.out)⟩, ⟨by repeat (first | (with_reducible first | exact HB.out | apply below_alloc | apply pw_below_drewN | apply below_drew1 | refine below_set ?_ (IsT60.ge HI238.out)) | exact HB.out)⟩⟩
            · rw [if_neg c19] at H
              have c19b0 : ((Int.tmod a1 3) == 1) = false := beq_eq_false_iff_ne.mpr c19
              have c19b1 : ((Int.tmod a1 3) != 1) = true := bne_iff_ne.mpr c19
              by_cases c24 : (Int.tmod a1 3) = 2
              · rw [if_pos c24] at H
                have c24b0 : ((Int.tmod a1 3) == 2) = true := beq_iff_eq.mpr c24
                have c24b1 : ((Int.tmod a1 3) != 2) = false := bne_eq_false_iff_eq.mpr c24
                clear c24
                replace H := Option.bind_eq_some_iff.mp H
                obtain ⟨⟨t253, t254, t255, t256⟩, A250, H⟩ := H
                replace H : ((pack_Text.f kj2 t253).bind fun t257 => (conductorlaw01_PackForms.j1 kj2 l0 t257 t254 t235 t255 t256)) = some r := H
                have A25 := Aside0.mk A250
                clear A250
                replace H := Option.bind_eq_some_iff.mp H
                obtain ⟨t257, A260, H⟩ := H
                replace H : (conductorlaw01_PackForms.j1 kj2 l0 t257 t254 t235 t255 t256) = some r := H
                have A26 := Aside0.mk A260
                clear A260
                have H' := Aside0.mk H
                clear H
                go_wp2_with (first | ((with_reducible refine gate_callee (f := 23) rfl ?_); refine goesL_ (some 35) rfl rfl Try.func23 (by kernel_rfl) rfl #[.pointer (some ⟨g238, 0, none⟩), .int .i64 (l0.length : Int)] rfl (by (try simp only [List.map_toArray, List.map_cons, List.map_nil]); first | done | rfl | (simp only [List.length_drop, List.length_take]; rfl)) ?_; (with_reducible refine (pack_Reader_Text.callsT kj2 g238 t234 t235 t236 t237 (l0.length : Int) t253 t254 t255 t256 w _ ?side1 ?side2 A25.out).mono ?_); (case side1 => repeat (first | (with_reducible first | exact HI238.out | apply IsT60.alloc | apply IsT60.drewN | apply IsT60.drew | apply IsT60.set_0 | apply IsT60.set_2 | apply IsT60.set_3) | exact HI238.out)); (case side2 => repeat (first | (with_reducible first | exact HB.out | apply below_alloc | apply pw_below_drewN | apply below_drew1 | refine below_set ?_ (IsT60.ge HI238.out)) | exact HB.out)); rintro e w27 ⟨rfl, hi, hb, hk⟩; refine ⟨_, rfl, ?_⟩; have n0_ := Aside0.mk (hb); have n1_ := Aside0.mk (hi); clear HB; clear HI238; have HB := n0_; have HI238 := n1_; clear n0_ n1_; (try clear hb); (try clear hb2); (try clear hk); (try clear hi)) | ((with_reducible refine gate_callee (f := 12) rfl ?_); refine goesL_ (some 36) rfl rfl Try.func12 (by kernel_rfl) rfl #[.string t253] rfl (by (try simp only [List.map_toArray, List.map_cons, List.map_nil]); first | done | rfl | (simp only [List.length_drop, List.length_take]; rfl)) ?_; (with_reducible refine (pack_Text.calls kj2 t253 t257 _ A26.out).mono ?_); rintro e w28 ⟨v258, rfl, ho0, hb⟩; refine ⟨_, rfl, ?_⟩; have n0_ := Aside0.mk (Kd.R_lower ho0 (below_size (by repeat (first | (with_reducible first | exact HB.out | apply below_alloc | apply pw_below_drewN | apply below_drew1 | refine below_set ?_ (IsT60.ge HI238.out)) | exact HB.out)))); have n1_ := Aside0.mk (IsT60.below (by repeat (first | (with_reducible first | exact HI238.out | apply IsT60.alloc | apply IsT60.drewN | apply IsT60.drew | apply IsT60.set_0 | apply IsT60.set_2 | apply IsT60.set_3) | exact HI238.out)) hb); have n2_ := Aside0.mk (below_step (by repeat (first | (with_reducible first | exact HB.out | apply below_alloc | apply pw_below_drewN | apply below_drew1 | refine below_set ?_ (IsT60.ge HI238.out)) | exact HB.out)) hb); clear HI238; clear HB; have HO259 := n0_; have HI238 := n1_; have HB := n2_; clear n0_ n1_ n2_; (try clear hb); (try clear hb2); (try clear hk); (try clear hi); (try clear ho0)))
                go_meet
                case rel => exact ⟨_, (t257), (t254), (t255), (t256), H', ⟨by have := HJ2.out; first | omega | exact Nat.le_refl _⟩, ⟨by (with_reducible repeat (first | apply Kd.R_alloc | apply Kd.R_drewN | apply Kd.R_drew)); exact HO259.out⟩, ⟨by repeat (first | (with_reducible first | exact HI238.out | apply IsT60.alloc | apply IsT60.drewN | apply IsT60.drew | apply IsT60.set_0 | apply IsT60.set_2 | apply IsT60.set_3) | exact HI238.out)⟩, ⟨by repeat (first | (with_reducible first | exact HB.out | apply below_alloc | apply pw_below_drewN | apply below_drew1 | refine below_set ?_ (IsT60.ge HI238.out)) | exact HB.out)⟩⟩
              · rw [if_neg c24] at H
                have c24b0 : ((Int.tmod a1 3) == 2) = false := beq_eq_false_iff_ne.mpr c24
                have c24b1 : ((Int.tmod a1 3) != 2) = true := bne_iff_ne.mpr c24
                have H' := Aside0.mk H
                clear H
                go_wp2
                go_meet
                case rel => exact ⟨_, (([] : List Int)), (t234), (t236), (t237), H', ⟨by have := HJ2.out; first | omega | exact Nat.le_refl _⟩, ⟨by first | exact Kd.R_nil _ _ _ _ _ | exact Kd.N_nil _ _ _ _ _ | exact Kd.V_nil _ _ _ _ _ | exact Kd.Q_nil _ _ _ _ _ | exact Kd.S_nil _ _ _ _ _⟩, ⟨by repeat (first | (with_reducible first | exact HI238.out | apply IsT60.alloc | apply IsT60.drewN | apply IsT60.drew | apply IsT60.set_0 | apply IsT60.set_2 | apply IsT60.set_3) | exact HI238.out)⟩, ⟨by repeat (first | (with_reducible first | exact HB.out | apply below_alloc | apply pw_below_drewN | apply below_drew1 | refine below_set ?_ (IsT60.ge HI238.out)) | exact HB.out)⟩⟩
        case rest =>
          clear HC12
          try clear c1
          try clear c2
          try clear p2
          try clear c5
          try clear c8
          try clear c10
          try clear c12
          try clear c14
          try clear c14b0
          try clear c14b1
          try clear c16
          try clear c18
          try clear c19
          try clear c19b0
          try clear c19b1
          try clear c20
          try clear c21
          try clear c22
          try clear c23
          try clear c24
          try clear c24b0
          try clear c24b1
          try clear p2
          obtain ⟨kq, x6_11, x239000_11, x239002_11, x239003_11, HA, HJ11, HO_6, HI238, HB⟩ := hcut
          cases kq with
          | zero => exact absurd HA.out (by simp [conductorlaw01_PackForms.j1])
          | succ kj11 =>
            have H := HA.out
            clear HA
            simp only [conductorlaw01_PackForms.j1] at H
            replace H := Option.bind_eq_some_iff.mp H
            obtain ⟨⟨t260, t261, t262, t263⟩, A290, H⟩ := H
            replace H : (if t260 = 0 then ((pack_Reader_Left.f t261 t235 t262 t263).bind fun bt264 => (if (wrap64 ((l0.length : Int) - bt264.1)) > 0 then (if 0 ≤ (wrap64 ((l0.length : Int) - bt264.1)) then (if (wrap64 ((l0.length : Int) - bt264.1)) ≤ (l0.length : Int) then ((conductorref01_Equal.f x6_11 (l0.take ((wrap64 ((l0.length : Int) - bt264.1)) : Int).toNat)).bind fun t269 => (some t269)) else (none)) else (none)) else (some false))) else ((pack_Reader_Left.f t261 t235 t262 t263).bind fun bt270 => (some (bt270.1 == (l0.length : Int))))) = some r := H
            have A29 := Aside0.mk A290
            clear A290
            by_cases c30 : t260 = 0
            · rw [if_pos c30] at H
              have c30b0 : (t260 == 0) = true := beq_iff_eq.mpr c30
              have c30b1 : (t260 != 0) = false := bne_eq_false_iff_eq.mpr c30
              clear c30
              replace H := Option.bind_eq_some_iff.mp H
              obtain ⟨⟨t264, t265, t266, t267⟩, A310, H⟩ := H
              replace H : (if (wrap64 ((l0.length : Int) - t264)) > 0 then (if 0 ≤ (wrap64 ((l0.length : Int) - t264)) then (if (wrap64 ((l0.length : Int) - t264)) ≤ (l0.length : Int) then ((conductorref01_Equal.f x6_11 (l0.take ((wrap64 ((l0.length : Int) - t264)) : Int).toNat)).bind fun t269 => (some t269)) else (none)) else (none)) else (some false)) = some r := H
              have A31 := Aside0.mk A310
              clear A310
              by_cases c32 : (wrap64 ((l0.length : Int) - t264)) > 0
              · rw [if_pos c32] at H
                have c32b0 : decide (0 < (wrap64 ((l0.length : Int) - t264))) = true := decide_eq_true c32
                clear c32
                obtain ⟨ji33, hji33⟩ : ∃ j_ : Int, (wrap64 ((l0.length : Int) - t264)) = j_ := ⟨_, rfl⟩
                replace H : (if 0 ≤ (ji33) then (if (ji33) ≤ (l0.length : Int) then ((conductorref01_Equal.f x6_11 (l0.take ((ji33) : Int).toNat)).bind fun t269 => (some t269)) else (none)) else (none)) = some r := by first | (rw [hji33] at H; exact H) | (simp only [hji33] at H ⊢; exact H)
                (try rw [hji33] at c32b0)
                (try rw [hji33] at A29)
                (try rw [hji33] at A31)
                have hji33w : (IntKind.i64.wrap ((l0.length : Int) - t264)) = ji33 := (i64_w _).trans hji33
                by_cases c34 : 0 ≤ (ji33)
                · rw [if_pos c34] at H
                  have c34b0 := eq_true c34
                  have c34b1 : decide (0 ≤ (ji33)) = true := decide_eq_true c34
                  clear c34
                  by_cases c35 : (ji33) ≤ (l0.length : Int)
                  · rw [if_pos c35] at H
                    have c35b0 := eq_true c35
                    have c35b1 : decide ((ji33) ≤ (l0.length : Int)) = true := decide_eq_true c35
                    clear c35
                    replace H := Option.bind_eq_some_iff.mp H
                    obtain ⟨t269, A360, H⟩ := H
                    replace H : (some t269) = some r := H
                    have A36 := Aside0.mk A360
                    clear A360
                    obtain rfl := Option.some.inj H
                    go_wp2_with (first | ((with_reducible refine gate_callee (f := 24) rfl ?_); refine goesL_ (some 38) rfl rfl Try.func24 (by kernel_rfl) rfl #[.pointer (some ⟨g238, 0, none⟩)] rfl (by (try simp only [List.map_toArray, List.map_cons, List.map_nil]); first | done | rfl | (simp only [List.length_drop, List.length_take]; rfl)) ?_; (with_reducible refine (pack_Reader_Err.callsT g238 x239000_11 t235 x239002_11 x239003_11 t260 t261 t262 t263 w _ ?side1 ?side2 A29.out).mono ?_); (case side1 => repeat (first | (with_reducible first | exact HI238.out | apply IsT60.alloc | apply IsT60.drewN | apply IsT60.drew | apply IsT60.set_0 | apply IsT60.set_2 | apply IsT60.set_3) | exact HI238.out)); (case side2 => repeat (first | (with_reducible first | exact HB.out | apply below_alloc | apply pw_below_drewN | apply below_drew1 | refine below_set ?_ (IsT60.ge HI238.out)) | exact HB.out)); rintro e w37 ⟨rfl, hi, hb, hk⟩; refine ⟨_, rfl, ?_⟩; have n0_ := Aside0.mk (Kd.R_mono (Kd.R_keep (IsT60.apart (show IsT60 w _ g238 x239000_11 t235 x239002_11 x239003_11 from by repeat (first | (with_reducible first | exact HI238.out | apply IsT60.alloc | apply IsT60.drewN | apply IsT60.drew | apply IsT60.set_0 | apply IsT60.set_2 | apply IsT60.set_3) | exact HI238.out)) (by (with_reducible repeat (first | apply Kd.R_alloc | apply Kd.R_drewN | apply Kd.R_drew)); exact HO_6.out) (by decide)) hk (fun _ h => h.2)) (fun _ h => h.1)); have n1_ := Aside0.mk (hb); have n2_ := Aside0.mk (hi); clear HO_6; clear HB; clear HI238; have HO_6 := n0_; have HB := n1_; have HI238 := n2_; clear n0_ n1_ n2_; (try clear hb); (try clear hb2); (try clear hk); (try clear hi)) | ((with_reducible refine gate_callee (f := 25) rfl ?_); refine goesL_ (some 48) rfl rfl Try.func25 (by kernel_rfl) rfl #[.pointer (some ⟨g238, 0, none⟩)] rfl (by (try simp only [List.map_toArray, List.map_cons, List.map_nil]); first | done | rfl | (simp only [List.length_drop, List.length_take]; rfl)) ?_; (with_reducible refine (pack_Reader_Left.callsT g238 t261 t235 t262 t263 t264 t265 t266 t267 w _ ?side1 ?side2 A31.out).mono ?_); (case side1 => repeat (first | (with_reducible first | exact HI238.out | apply IsT60.alloc | apply IsT60.drewN | apply IsT60.drew | apply IsT60.set_0 | apply IsT60.set_2 | apply IsT60.set_3) | exact HI238.out)); (case side2 => repeat (first | (with_reducible first | exact HB.out | apply below_alloc | apply pw_below_drewN | apply below_drew1 | refine below_set ?_ (IsT60.ge HI238.out)) | exact HB.out)); rintro e w38 ⟨rfl, hi, hb, hk⟩; refine ⟨_, rfl, ?_⟩; have n0_ := Aside0.mk (Kd.R_mono (Kd.R_keep (IsT60.apart (show IsT60 w _ g238 t261 t235 t262 t263 from by repeat (first | (with_reducible first | exact HI238.out | apply IsT60.alloc | apply IsT60.drewN | apply IsT60.drew | apply IsT60.set_0 | apply IsT60.set_2 | apply IsT60.set_3) | exact HI238.out)) (by (with_reducible repeat (first | apply Kd.R_alloc | apply Kd.R_drewN | apply Kd.R_drew)); exact HO_6.out) (by decide)) hk (fun _ h => h.2)) (fun _ h => h.1)); have n1_ := Aside0.mk (hb); have n2_ := Aside0.mk (hi); clear HO_6; clear HB; clear HI238; have HO_6 := n0_; have HB := n1_; have HI238 := n2_; clear n0_ n1_ n2_; (try clear hb); (try clear hb2); (try clear hk); (try clear hi); obtain ⟨i039, hi039, _, hsz39, _⟩ := info_parts info5; obtain ⟨hcut39, hA39, hC39⟩ := print_take_of (P := Try.prog) (Value.int .u8) 0 25 5 .i64 Try.underlying25 hi039 hsz39 A0 c0 l0 (ji33) (of_decide_eq_true (by first | (with_reducible assumption) | assumption)) (of_decide_eq_true (by first | (with_reducible assumption) | assumption)) HC0.out; obtain ⟨yc39, hyc39⟩ : ∃ y_, y_ = (l0.take ((ji33) : Int).toNat) := ⟨_, rfl⟩; rw [← hyc39] at hcut39 hA39 hC39; (try (replace A36 := Aside0.mk (by have h_ := A36.out; rw [← hyc39] at h_; exact h_))); replace hyc39 := Aside0.mk hyc39; have HR268 := Aside0.mk (Kd.C_of_reads (h1 := fun _ => rfl) (hA39 _ (Kd.reads_of_C HR0.out))); have HC268 := Aside0.mk hC39; clear hA39 hC39 hi039 hsz39; obtain ⟨Ao40, co40, eo40⟩ := Kd.R_slice HO_6.out; subst eo40) | (go_at_call 11; (with_reducible refine (conductorref01_Equal.calls _ _ x6_11 _ _ yc39 t269 _ ?side1 ?side2 ?side3 ?side4 A36.out).mono ?_); (case side1 => repeat (first | exact (Kd.R_reads' HO_6.out).2.2 | (with_reducible refine Kd.C_alloc ?_ _) | (with_reducible refine Kd.C_drewN ?_ _) | (with_reducible refine Kd.C_drew ?_))); (case side2 => exact (Kd.R_reads' HO_6.out).2.1); (case side3 => repeat (first | exact (Kd.C_below HR268.out HB.out) | (with_reducible refine Kd.C_alloc ?_ _) | (with_reducible refine Kd.C_drewN ?_ _) | (with_reducible refine Kd.C_drew ?_))); (case side4 => exact HC268.out); rintro e w' ⟨rfl, ⟨nd, rfl⟩⟩))
                    go_ret
                    exact ⟨by first | rfl | (simp [errW_none, errW_some] <;> rfl) | (simp only [← hji33]; first | rfl | (simp [errW_none, errW_some] <;> rfl)) | (simp [*, errW_none, errW_some] <;> rfl), by repeat (first | (with_reducible first | exact HB.out | apply below_alloc | apply pw_below_drewN | apply below_drew1 | refine below_set ?_ (IsT60.ge HI238.out)) | exact HB.out)⟩
                  · rw [if_neg c35] at H
                    exact absurd H (by simp)
                · rw [if_neg c34] at H
                  exact absurd H (by simp)
              · rw [if_neg c32] at H
                have c32b0 : decide (0 < (wrap64 ((l0.length : Int) - t264))) = false := decide_eq_false c32
                clear c32
                obtain rfl := Option.some.inj H
                go_wp2_with (first | ((with_reducible refine gate_callee (f := 24) rfl ?_); refine goesL_ (some 38) rfl rfl Try.func24 (by kernel_rfl) rfl #[.pointer (some ⟨g238, 0, none⟩)] rfl (by (try simp only [List.map_toArray, List.map_cons, List.map_nil]); first | done | rfl | (simp only [List.length_drop, List.length_take]; rfl)) ?_; (with_reducible refine (pack_Reader_Err.callsT g238 x239000_11 t235 x239002_11 x239003_11 t260 t261 t262 t263 w _ ?side1 ?side2 A29.out).mono ?_); (case side1 => repeat (first | (with_reducible first | exact HI238.out | apply IsT60.alloc | apply IsT60.drewN | apply IsT60.drew | apply IsT60.set_0 | apply IsT60.set_2 | apply IsT60.set_3) | exact HI238.out)); (case side2 => repeat (first | (with_reducible first | exact HB.out | apply below_alloc | apply pw_below_drewN | apply below_drew1 | refine below_set ?_ (IsT60.ge HI238.out)) | exact HB.out)); rintro e w41 ⟨rfl, hi, hb, hk⟩; refine ⟨_, rfl, ?_⟩; have n0_ := Aside0.mk (Kd.R_mono (Kd.R_keep (IsT60.apart (show IsT60 w _ g238 x239000_11 t235 x239002_11 x239003_11 from by repeat (first | (with_reducible first | exact HI238.out | apply IsT60.alloc | apply IsT60.drewN | apply IsT60.drew | apply IsT60.set_0 | apply IsT60.set_2 | apply IsT60.set_3) | exact HI238.out)) (by (with_reducible repeat (first | apply Kd.R_alloc | apply Kd.R_drewN | apply Kd.R_drew)); exact HO_6.out) (by decide)) hk (fun _ h => h.2)) (fun _ h => h.1)); have n1_ := Aside0.mk (hb); have n2_ := Aside0.mk (hi); clear HO_6; clear HB; clear HI238; have HO_6 := n0_; have HB := n1_; have HI238 := n2_; clear n0_ n1_ n2_; (try clear hb); (try clear hb2); (try clear hk); (try clear hi)) | ((with_reducible refine gate_callee (f := 25) rfl ?_); refine goesL_ (some 48) rfl rfl Try.func25 (by kernel_rfl) rfl #[.pointer (some ⟨g238, 0, none⟩)] rfl (by (try simp only [List.map_toArray, List.map_cons, List.map_nil]); first | done | rfl | (simp only [List.length_drop, List.length_take]; rfl)) ?_; (with_reducible refine (pack_Reader_Left.callsT g238 t261 t235 t262 t263 t264 t265 t266 t267 w _ ?side1 ?side2 A31.out).mono ?_); (case side1 => repeat (first | (with_reducible first | exact HI238.out | apply IsT60.alloc | apply IsT60.drewN | apply IsT60.drew | apply IsT60.set_0 | apply IsT60.set_2 | apply IsT60.set_3) | exact HI238.out)); (case side2 => repeat (first | (with_reducible first | exact HB.out | apply below_alloc | apply pw_below_drewN | apply below_drew1 | refine below_set ?_ (IsT60.ge HI238.out)) | exact HB.out)); rintro e w42 ⟨rfl, hi, hb, hk⟩; refine ⟨_, rfl, ?_⟩; have n0_ := Aside0.mk (Kd.R_mono (Kd.R_keep (IsT60.apart (show IsT60 w _ g238 t261 t235 t262 t263 from by repeat (first | (with_reducible first | exact HI238.out | apply IsT60.alloc | apply IsT60.drewN | apply IsT60.drew | apply IsT60.set_0 | apply IsT60.set_2 | apply IsT60.set_3) | exact HI238.out)) (by (with_reducible repeat (first | apply Kd.R_alloc | apply Kd.R_drewN | apply Kd.R_drew)); exact HO_6.out) (by decide)) hk (fun _ h => h.2)) (fun _ h => h.1)); have n1_ := Aside0.mk (hb); have n2_ := Aside0.mk (hi); clear HO_6; clear HB; clear HI238; have HO_6 := n0_; have HB := n1_; have HI238 := n2_; clear n0_ n1_ n2_; (try clear hb); (try clear hb2); (try clear hk); (try clear hi)))
                go_ret
                exact ⟨by first | rfl | (simp [errW_none, errW_some] <;> rfl) | (simp [*, errW_none, errW_some] <;> rfl), by repeat (first | (with_reducible first | exact HB.out | apply below_alloc | apply pw_below_drewN | apply below_drew1 | refine below_set ?_ (IsT60.ge HI238.out)) | exact HB.out)⟩
            · rw [if_neg c30] at H
              have c30b0 : (t260 == 0) = false := beq_eq_false_iff_ne.mpr c30
              have c30b1 : (t260 != 0) = true := bne_iff_ne.mpr c30
              replace H := Option.bind_eq_some_iff.mp H
              obtain ⟨⟨t270, t271, t272, t273⟩, A430, H⟩ := H
              replace H : (some (t270 == (l0.length : Int))) = some r := H
              have A43 := Aside0.mk A430
              clear A430
              obtain rfl := Option.some.inj H
              go_wp2_with (first | ((with_reducible refine gate_callee (f := 24) rfl ?_); refine goesL_ (some 38) rfl rfl Try.func24 (by kernel_rfl) rfl #[.pointer (some ⟨g238, 0, none⟩)] rfl (by (try simp only [List.map_toArray, List.map_cons, List.map_nil]); first | done | rfl | (simp only [List.length_drop, List.length_take]; rfl)) ?_; (with_reducible refine (pack_Reader_Err.callsT g238 x239000_11 t235 x239002_11 x239003_11 t260 t261 t262 t263 w _ ?side1 ?side2 A29.out).mono ?_); (case side1 => repeat (first | (with_reducible first | exact HI238.out | apply IsT60.alloc | apply IsT60.drewN | apply IsT60.drew | apply IsT60.set_0 | apply IsT60.set_2 | apply IsT60.set_3) | exact HI238.out)); (case side2 => repeat (first | (with_reducible first | exact HB.out | apply below_alloc | apply pw_below_drewN | apply below_drew1 | refine below_set ?_ (IsT60.ge HI238.out)) | exact HB.out)); rintro e w44 ⟨rfl, hi, hb, hk⟩; refine ⟨_, rfl, ?_⟩; have n0_ := Aside0.mk (Kd.R_mono (Kd.R_keep (IsT60.apart (show IsT60 w _ g238 x239000_11 t235 x239002_11 x239003_11 from by repeat (first | (with_reducible first | exact HI238.out | apply IsT60.alloc | apply IsT60.drewN | apply IsT60.drew | apply IsT60.set_0 | apply IsT60.set_2 | apply IsT60.set_3) | exact HI238.out)) (by (with_reducible repeat (first | apply Kd.R_alloc | apply Kd.R_drewN | apply Kd.R_drew)); exact HO_6.out) (by decide)) hk (fun _ h => h.2)) (fun _ h => h.1)); have n1_ := Aside0.mk (hb); have n2_ := Aside0.mk (hi); clear HO_6; clear HB; clear HI238; have HO_6 := n0_; have HB := n1_; have HI238 := n2_; clear n0_ n1_ n2_; (try clear hb); (try clear hb2); (try clear hk); (try clear hi)) | ((with_reducible refine gate_callee (f := 25) rfl ?_); refine goesL_ (some 41) rfl rfl Try.func25 (by kernel_rfl) rfl #[.pointer (some ⟨g238, 0, none⟩)] rfl (by (try simp only [List.map_toArray, List.map_cons, List.map_nil]); first | done | rfl | (simp only [List.length_drop, List.length_take]; rfl)) ?_; (with_reducible refine (pack_Reader_Left.callsT g238 t261 t235 t262 t263 t270 t271 t272 t273 w _ ?side1 ?side2 A43.out).mono ?_); (case side1 => repeat (first | (with_reducible first | exact HI238.out | apply IsT60.alloc | apply IsT60.drewN | apply IsT60.drew | apply IsT60.set_0 | apply IsT60.set_2 | apply IsT60.set_3) | exact HI238.out)); (case side2 => repeat (first | (with_reducible first | exact HB.out | apply below_alloc | apply pw_below_drewN | apply below_drew1 | refine below_set ?_ (IsT60.ge HI238.out)) | exact HB.out)); rintro e w45 ⟨rfl, hi, hb, hk⟩; refine ⟨_, rfl, ?_⟩; have n0_ := Aside0.mk (Kd.R_mono (Kd.R_keep (IsT60.apart (show IsT60 w _ g238 t261 t235 t262 t263 from by repeat (first | (with_reducible first | exact HI238.out | apply IsT60.alloc | apply IsT60.drewN | apply IsT60.drew | apply IsT60.set_0 | apply IsT60.set_2 | apply IsT60.set_3) | exact HI238.out)) (by (with_reducible repeat (first | apply Kd.R_alloc | apply Kd.R_drewN | apply Kd.R_drew)); exact HO_6.out) (by decide)) hk (fun _ h => h.2)) (fun _ h => h.1)); have n1_ := Aside0.mk (hb); have n2_ := Aside0.mk (hi); clear HO_6; clear HB; clear HI238; have HO_6 := n0_; have HB := n1_; have HI238 := n2_; clear n0_ n1_ n2_; (try clear hb); (try clear hb2); (try clear hk); (try clear hi)))
              go_ret
              exact ⟨by first | rfl | (simp [errW_none, errW_some] <;> rfl) | (simp [*, errW_none, errW_some] <;> rfl), by repeat (first | (with_reducible first | exact HB.out | apply below_alloc | apply pw_below_drewN | apply below_drew1 | refine below_set ?_ (IsT60.ge HI238.out)) | exact HB.out)⟩

/-- THE ONE PURE STATEMENT of conductorlaw01_PackForms: yours. -/
def conductorlaw01_PackForms.Pure : Prop := ∀ (l0 : List Int) (a1 : Int), l0.length ≤ maxLen → l0.length * 1 ≤ 140737488351232 → (∀ x ∈ l0, (Lit.int .u8 x).wf = true) → (Lit.int .u8 a1).wf = true → ∃ k, conductorlaw01_PackForms.f k l0 a1 = some true
theorem conductorlaw01_PackForms.walk (P : conductorlaw01_PackForms.Pure) (a0 : Option Addr) (len0 cap0 : Nat) (z0 : List Int) (a1 : Int) (w : World) (w0 : (a0 = none ∧ len0 = 0 ∧ cap0 = 0 ∧ z0 = []) ∨ ∃ x, a0 = some x ∧ len0 ≤ cap0 ∧ cap0 ≤ maxLen ∧ z0.length = cap0 ∧ (∀ i, i < z0.length → w.cell? (x.add i) = some (.int .u8 (z0.getD i 0))) ∧ ∀ n ∈ z0, (Lit.int .u8 n).wf = true) (y0 : len0 * 1 ≤ 140737488351232) (w1 : (Lit.int .u8 a1).wf = true) :
    Calls Try.prog 5 #[.slice a0 len0 cap0, .int .u8 a1] w fun e w' => e = .returned (.bool true) ∧ Below w.heap.size w w' := by
  obtain ⟨l0, rfl, hr0, hm0, hw0, hc0⟩ := ReadsInt.ofRowC w0
  obtain ⟨k, h⟩ := P l0 a1 hm0 y0 hw0 w1
  refine (conductorlaw01_PackForms.calls k _ _ l0 a1 true w (Kd.C_of_reads (d := (0 : Int)) (h1 := fun _ => rfl) hr0) hc0 h).mono ?_
  rintro e w' ⟨rfl, hd⟩
  exact ⟨rfl, hd⟩

end Go.Proofs.Ytdlmkdgcdbkeaaa.Z
