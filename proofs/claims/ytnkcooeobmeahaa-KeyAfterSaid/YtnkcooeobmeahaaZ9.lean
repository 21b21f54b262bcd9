/- Each Go function that the statements reach, as a plain Lean function, and a proof that the call comes to what it says. -/
import Derived.Test.YtnkcooeobmeahaaZ0
import Derived.Test.YtnkcooeobmeahaaZ2
import Derived.Test.YtnkcooeobmeahaaZ4
namespace Go.Proofs.Ytnkcooeobmeahaa.Z
open Go.RowKit Go.Proofs.YtnkcooeobmeahaaW.PrintWords Go.Proofs.YtnkcooeobmeahaaW.PrintLast Go.Proofs.YtnkcooeobmeahaaW.PrintMore
attribute [local go_sem] max2_int min2_int max_two min_two max_three min_three max_four min_four   -- for this text's walks alone
attribute [local go_sem] Go.Proofs.Ytnkcooeobmeahaa.Str.gtr_str Go.Proofs.Ytnkcooeobmeahaa.Str.leq_str Go.Proofs.Ytnkcooeobmeahaa.Str.geq_str
set_option linter.unusedVariables false
set_option linter.unusedSimpArgs false

/-! ### conductorlaw03_KeyAfter: function 5 -/
def conductorlaw03_KeyAfter.j0 : Nat → ByteArray → ByteArray → Bool → Option (Bool)
  | 0, _, _, _ => none
  | k + 1, x0, x1, x18 => if x18 = true then ((conductorlaw03_live.f k).bind fun t167 => (some t167)) else ((key_After.f k x0).bind fun t168 => (if (x1.size : Int) ≥ (x0.size : Int) then (if 0 ≤ (x0.size : Int) then (if (x0.size : Int) ≤ (x1.size : Int) then (if ((Op.bytesLess x1.toList x0.toList) = true) then (some (false == ((x1.extract 0 ((x0.size : Int) : Int).toNat).toList == x0.toList))) else (if t168.toList = ([] : List UInt8) then (some (true == ((x1.extract 0 ((x0.size : Int) : Int).toNat).toList == x0.toList))) else (some ((Op.bytesLess x1.toList t168.toList) == ((x1.extract 0 ((x0.size : Int) : Int).toNat).toList == x0.toList))))) else (none)) else (none)) else (if ((Op.bytesLess x1.toList x0.toList) = true) then (some (false == false)) else (if t168.toList = ([] : List UInt8) then (some (true == false)) else (some ((Op.bytesLess x1.toList t168.toList) == false))))))
def conductorlaw03_KeyAfter.f (k : Nat) (a0 : ByteArray) (a1 : ByteArray) : Option (Bool) := (conductorlaw03_live.f k).bind fun t166 => (if t166 = true then (if (a0.size : Int) > 1000 then (conductorlaw03_KeyAfter.j0 k a0 a1 true) else (conductorlaw03_KeyAfter.j0 k a0 a1 (decide ((a1.size : Int) > 1000)))) else (conductorlaw03_KeyAfter.j0 k a0 a1 true))
theorem conductorlaw03_KeyAfter.mono_l : ∀ k, (∀ y0 y1 y2, LeO (conductorlaw03_KeyAfter.j0 k y0 y1 y2) (conductorlaw03_KeyAfter.j0 (k + 1) y0 y1 y2))
  | 0 => fun _ _ _ r h => by simp [conductorlaw03_KeyAfter.j0] at h
  | k + 1 => by
    have ih0 := conductorlaw03_KeyAfter.mono_l k
    · intro y0 y1 y2
      unfold conductorlaw03_KeyAfter.j0
      repeat' first
      | (with_reducible exact ih0 _ _ _)
      | (with_reducible exact conductorlaw03_live.mono _)
      | (with_reducible exact key_After.mono _ _)
      | (with_reducible exact LeO.refl _)
      | (with_reducible exact LeO.none _)
      | (with_reducible refine LeO.ite ?_ ?_)
      | (with_reducible refine LeO.bind ?_ (fun _ => ?_))
      | exact ih0 _ _ _
      | exact conductorlaw03_live.mono _
      | exact key_After.mono _ _
      | exact LeO.none _
      | refine LeO.ite ?_ ?_
      | refine LeO.bind ?_ (fun _ => ?_)
theorem conductorlaw03_KeyAfter.mono : ∀ a0 a1 k, LeO (conductorlaw03_KeyAfter.f k a0 a1) (conductorlaw03_KeyAfter.f (k + 1) a0 a1) := by
  intro a0 a1 k
  have ih0 := conductorlaw03_KeyAfter.mono_l k
  unfold conductorlaw03_KeyAfter.f
  repeat' first
      | (with_reducible exact ih0 _ _ _)
      | (with_reducible exact conductorlaw03_live.mono _)
      | (with_reducible exact key_After.mono _ _)
      | (with_reducible exact LeO.refl _)
      | (with_reducible exact LeO.none _)
      | (with_reducible refine LeO.ite ?_ ?_)
      | (with_reducible refine LeO.bind ?_ (fun _ => ?_))
      | exact ih0 _ _ _
      | exact conductorlaw03_live.mono _
      | exact key_After.mono _ _
      | exact LeO.none _
      | refine LeO.ite ?_ ?_
      | refine LeO.bind ?_ (fun _ => ?_)
set_option maxHeartbeats 8000000 in
set_option maxRecDepth 100000 in
theorem conductorlaw03_KeyAfter.calls (k : Nat) (a0 : ByteArray) (a1 : ByteArray) (r : Bool) (w : World) (h : conductorlaw03_KeyAfter.f k a0 a1 = some r) :
    Calls Try.prog 5 #[.string a0, .string a1] w fun e w' => e = .returned (.bool r) ∧ Below w.heap.size w w' := by
  have HB := Aside0.mk (Below.refl w.heap.size w)
  have H : ((conductorlaw03_live.f k).bind fun t166 => (if t166 = true then (if (a0.size : Int) > 1000 then (conductorlaw03_KeyAfter.j0 k a0 a1 true) else (conductorlaw03_KeyAfter.j0 k a0 a1 (decide ((a1.size : Int) > 1000)))) else (conductorlaw03_KeyAfter.j0 k a0 a1 true))) = some r := h
  clear h
  have HC3 := Aside0.mk H
  clear H
  go_enter Try.func5, Try.ntmps5
  go_upto_region 1 with (fail)
  go_cut [18] (fun v18 wc => ∃ (kq : Nat) (x18_2 : Bool), v18 = .bool x18_2 ∧ Aside0 (conductorlaw03_KeyAfter.j0 kq a0 a1 x18_2 = some r) ∧ Aside0 (kq ≤ k) ∧ Aside0 (Below w.heap.size w wc))
  case first =>
    have H := HC3.out
    clear HC3
    replace H := Option.bind_eq_some_iff.mp H
    obtain ⟨t166, A40, H⟩ := H
    replace H : (if t166 = true then (if (a0.size : Int) > 1000 then (conductorlaw03_KeyAfter.j0 k a0 a1 true) else (conductorlaw03_KeyAfter.j0 k a0 a1 (decide ((a1.size : Int) > 1000)))) else (conductorlaw03_KeyAfter.j0 k a0 a1 true)) = some r := H
    have A4 := Aside0.mk A40
    clear A40
    by_cases c5 : t166 = true
    · subst c5
      have H1 : (if (a0.size : Int) > 1000 then (conductorlaw03_KeyAfter.j0 k a0 a1 true) else (conductorlaw03_KeyAfter.j0 k a0 a1 (decide ((a1.size : Int) > 1000)))) = some r := by rw [if_pos rfl] at H; exact H
      clear H
      have H := H1
      clear H1
      by_cases c6 : (a0.size : Int) > 1000
      · rw [if_pos c6] at H
        have c6b0 : decide (1000 < (a0.size : Int)) = true := decide_eq_true c6
        have c6b1 : decide (1000 < a0.size) = true := decide_eq_true (by omega)
        clear c6
        (first | rw [c6b0] | (simp only [i64_w, i32_w]; rw [c6b0]) | skip)
        have H' := Aside0.mk H
        clear H
        go_wp2_with (first | ((with_reducible refine gate_callee (f := 9) rfl ?_); refine goesL_ (some 7) rfl rfl Try.func9 (by kernel_rfl) rfl #[] rfl (by (try simp only [List.map_toArray, List.map_cons, List.map_nil]); first | done | rfl | (simp only [List.length_drop, List.length_take]; rfl)) ?_; (with_reducible refine (conductorlaw03_live.calls k  true _ A4.out).mono ?_); rintro e w7 ⟨rfl, hb⟩; refine ⟨_, rfl, ?_⟩; have n0_ := Aside0.mk (below_step (by repeat (first | (with_reducible first | exact HB.out | apply below_alloc | apply pw_below_drewN | apply below_drew1) | exact HB.out)) hb); clear HB; have HB := n0_; clear n0_; (try clear hb); (try clear hb2); (try clear hk); (try clear hi)))
        go_meet
        case rel => exact ⟨_, (true), (by first | rfl | (simp; done) | (simp [*]; done)), H', ⟨by first | omega | exact Nat.le_refl _⟩, ⟨by repeat (first | (with_reducible first | exact HB.out | apply below_alloc | apply pw_below_drewN | apply below_drew1) | exact HB.out)⟩⟩
      · rw [if_neg c6] at H
        have c6b0 : decide (1000 < (a0.size : Int)) = false := decide_eq_false c6
        have c6b1 : decide (1000 < a0.size) = false := decide_eq_false (by omega)
        clear c6
        (first | rw [c6b0] | (simp only [i64_w, i32_w]; rw [c6b0]) | skip)
        have H' := Aside0.mk H
        clear H
        go_wp2_with (first | ((with_reducible refine gate_callee (f := 9) rfl ?_); refine goesL_ (some 7) rfl rfl Try.func9 (by kernel_rfl) rfl #[] rfl (by (try simp only [List.map_toArray, List.map_cons, List.map_nil]); first | done | rfl | (simp only [List.length_drop, List.length_take]; rfl)) ?_; (with_reducible refine (conductorlaw03_live.calls k  true _ A4.out).mono ?_); rintro e w8 ⟨rfl, hb⟩; refine ⟨_, rfl, ?_⟩; have n0_ := Aside0.mk (below_step (by repeat (first | (with_reducible first | exact HB.out | apply below_alloc | apply pw_below_drewN | apply below_drew1) | exact HB.out)) hb); clear HB; have HB := n0_; clear n0_; (try clear hb); (try clear hb2); (try clear hk); (try clear hi)))
        go_meet
        case rel => exact ⟨_, (decide ((a1.size : Int) > 1000)), (by first | rfl | (simp; done) | (simp [*]; done)), H', ⟨by first | omega | exact Nat.le_refl _⟩, ⟨by repeat (first | (with_reducible first | exact HB.out | apply below_alloc | apply pw_below_drewN | apply below_drew1) | exact HB.out)⟩⟩
    · replace c5 := Bool.eq_false_iff.mpr c5
      subst c5
      have H1 : (conductorlaw03_KeyAfter.j0 k a0 a1 true) = some r := by rw [if_neg (show ¬ (false = true) by decide)] at H; exact H
      clear H
      have H := H1
      clear H1
      have H' := Aside0.mk H
      clear H
      go_wp2_with (first | ((with_reducible refine gate_callee (f := 9) rfl ?_); refine goesL_ (some 7) rfl rfl Try.func9 (by kernel_rfl) rfl #[] rfl (by (try simp only [List.map_toArray, List.map_cons, List.map_nil]); first | done | rfl | (simp only [List.length_drop, List.length_take]; rfl)) ?_; (with_reducible refine (conductorlaw03_live.calls k  false _ A4.out).mono ?_); rintro e w9 ⟨rfl, hb⟩; refine ⟨_, rfl, ?_⟩; have n0_ := Aside0.mk (below_step (by repeat (first | (with_reducible first | exact HB.out | apply below_alloc | apply pw_below_drewN | apply below_drew1) | exact HB.out)) hb); clear HB; have HB := n0_; clear n0_; (try clear hb); (try clear hb2); (try clear hk); (try clear hi)))
      go_meet
      case rel => exact ⟨_, (true), (by first | rfl | (simp; done) | (simp [*]; done)), H', ⟨by first | omega | exact Nat.le_refl _⟩, ⟨by repeat (first | (with_reducible first | exact HB.out | apply below_alloc | apply pw_below_drewN | apply below_drew1) | exact HB.out)⟩⟩
  case rest =>
    clear HC3
    try clear p2
    try clear c5
    try clear c6
    try clear c6b0
    try clear c6b1
    try clear c9
    obtain ⟨kq, x18_2, rfl, HA, HJ2, HB⟩ := hcut
    cases kq with
    | zero => exact absurd HA.out (by simp [conductorlaw03_KeyAfter.j0])
    | succ kj2 =>
      have H := HA.out
      clear HA
      simp only [conductorlaw03_KeyAfter.j0] at H
      by_cases c10 : x18_2 = true
      · subst c10
        have H1 : ((conductorlaw03_live.f kj2).bind fun t167 => (some t167)) = some r := by rw [if_pos rfl] at H; exact H
        clear H
        have H := H1
        clear H1
        replace H := Option.bind_eq_some_iff.mp H
        obtain ⟨t167, A110, H⟩ := H
        replace H : (some t167) = some r := H
        have A11 := Aside0.mk A110
        clear A110
        obtain rfl := Option.some.inj H
        go_wp2_with (first | ((with_reducible refine gate_callee (f := 9) rfl ?_); refine goesL_ (some 19) rfl rfl Try.func9 (by kernel_rfl) rfl #[] rfl (by (try simp only [List.map_toArray, List.map_cons, List.map_nil]); first | done | rfl | (simp only [List.length_drop, List.length_take]; rfl)) ?_; (with_reducible refine (conductorlaw03_live.calls kj2  t167 _ A11.out).mono ?_); rintro e w12 ⟨rfl, hb⟩; refine ⟨_, rfl, ?_⟩; have n0_ := Aside0.mk (below_step (by repeat (first | (with_reducible first | exact HB.out | apply below_alloc | apply pw_below_drewN | apply below_drew1) | exact HB.out)) hb); clear HB; have HB := n0_; clear n0_; (try clear hb); (try clear hb2); (try clear hk); (try clear hi)))
        go_ret
        exact ⟨by first | rfl | (simp [errW_none, errW_some] <;> rfl) | (simp [*, errW_none, errW_some] <;> rfl), by repeat (first | (with_reducible first | exact HB.out | apply below_alloc | apply pw_below_drewN | apply below_drew1) | exact HB.out)⟩
      · replace c10 := Bool.eq_false_iff.mpr c10
        subst c10
        have H1 : ((key_After.f kj2 a0).bind fun t168 => (if (a1.size : Int) ≥ (a0.size : Int) then (if 0 ≤ (a0.size : Int) then (if (a0.size : Int) ≤ (a1.size : Int) then (if ((Op.bytesLess a1.toList a0.toList) = true) then (some (false == ((a1.extract 0 ((a0.size : Int) : Int).toNat).toList == a0.toList))) else (if t168.toList = ([] : List UInt8) then (some (true == ((a1.extract 0 ((a0.size : Int) : Int).toNat).toList == a0.toList))) else (some ((Op.bytesLess a1.toList t168.toList) == ((a1.extract 0 ((a0.size : Int) : Int).toNat).toList == a0.toList))))) else (none)) else (none)) else (if ((Op.bytesLess a1.toList a0.toList) = true) then (some (false == false)) else (if t168.toList = ([] : List UInt8) then (some (true == false)) else (some ((Op.bytesLess a1.toList t168.toList) == false)))))) = some r := by rw [if_neg (show ¬ (false = true) by decide)] at H; exact H
        clear H
        have H := H1
        clear H1
        replace H := Option.bind_eq_some_iff.mp H
        obtain ⟨t168, A130, H⟩ := H
        replace H : (if (a1.size : Int) ≥ (a0.size : Int) then (if 0 ≤ (a0.size : Int) then (if (a0.size : Int) ≤ (a1.size : Int) then (if ((Op.bytesLess a1.toList a0.toList) = true) then (some (false == ((a1.extract 0 ((a0.size : Int) : Int).toNat).toList == a0.toList))) else (if t168.toList = ([] : List UInt8) then (some (true == ((a1.extract 0 ((a0.size : Int) : Int).toNat).toList == a0.toList))) else (some ((Op.bytesLess a1.toList t168.toList) == ((a1.extract 0 ((a0.size : Int) : Int).toNat).toList == a0.toList))))) else (none)) else (none)) else (if ((Op.bytesLess a1.toList a0.toList) = true) then (some (false == false)) else (if t168.toList = ([] : List UInt8) then (some (true == false)) else (some ((Op.bytesLess a1.toList t168.toList) == false))))) = some r := H
        have A13 := Aside0.mk A130
        clear A130
        by_cases c14 : (a1.size : Int) ≥ (a0.size : Int)
        · rw [if_pos c14] at H
          have c14b0 : decide ((a0.size : Int) ≤ (a1.size : Int)) = true := decide_eq_true c14
          have c14b1 : decide (a0.size ≤ a1.size) = true := decide_eq_true (Int.ofNat_le.mp c14)
          clear c14
          by_cases c15 : 0 ≤ (a0.size : Int)
          · rw [if_pos c15] at H
            have c15b0 := eq_true c15
            have c15b1 : decide (0 ≤ (a0.size : Int)) = true := decide_eq_true c15
            clear c15
            by_cases c16 : (a0.size : Int) ≤ (a1.size : Int)
            · rw [if_pos c16] at H
              have c16b0 := eq_true c16
              have c16b1 : decide ((a0.size : Int) ≤ (a1.size : Int)) = true := decide_eq_true c16
              clear c16
              by_cases c17 : ((Op.bytesLess a1.toList a0.toList) = true)
              · rw [if_pos c17] at H
                have c17b0 : (Op.bytesLess a1.toList a0.toList) = true := c17
                clear c17
                obtain rfl := Option.some.inj H
                go_wp2_with (first | ((with_reducible refine gate_callee (f := 16) rfl ?_); refine goesL_ (some 21) rfl rfl Try.func16 (by kernel_rfl) rfl #[.string a0] rfl (by (try simp only [List.map_toArray, List.map_cons, List.map_nil]); first | done | rfl | (simp only [List.length_drop, List.length_take]; rfl)) ?_; (with_reducible refine (key_After.calls kj2 a0 t168 _ A13.out).mono ?_); rintro e w18 ⟨rfl, hb⟩; refine ⟨_, rfl, ?_⟩; have n0_ := Aside0.mk (below_step (by repeat (first | (with_reducible first | exact HB.out | apply below_alloc | apply pw_below_drewN | apply below_drew1) | exact HB.out)) hb); clear HB; have HB := n0_; clear n0_; (try clear hb); (try clear hb2); (try clear hk); (try clear hi)))
                go_ret
                exact ⟨by first | rfl | (simp [errW_none, errW_some] <;> rfl) | (simp [*, errW_none, errW_some] <;> rfl), by repeat (first | (with_reducible first | exact HB.out | apply below_alloc | apply pw_below_drewN | apply below_drew1) | exact HB.out)⟩
              · rw [if_neg c17] at H
                have c17b0 : (Op.bytesLess a1.toList a0.toList) = false := by simpa using c17
                clear c17
                by_cases c19 : t168.toList = ([] : List UInt8)
                · rw [if_pos c19] at H
                  have c19b0 : (t168.toList == ([] : List UInt8)) = true := beq_iff_eq.mpr c19
                  have c19b1 : (t168.toList != ([] : List UInt8)) = false := bne_eq_false_iff_eq.mpr c19
                  clear c19
                  obtain rfl := Option.some.inj H
                  go_wp2_with (first | ((with_reducible refine gate_callee (f := 16) rfl ?_); refine goesL_ (some 21) rfl rfl Try.func16 (by kernel_rfl) rfl #[.string a0] rfl (by (try simp only [List.map_toArray, List.map_cons, List.map_nil]); first | done | rfl | (simp only [List.length_drop, List.length_take]; rfl)) ?_; (with_reducible refine (key_After.calls kj2 a0 t168 _ A13.out).mono ?_); rintro e w20 ⟨rfl, hb⟩; refine ⟨_, rfl, ?_⟩; have n0_ := Aside0.mk (below_step (by repeat (first | (with_reducible first | exact HB.out | apply below_alloc | apply pw_below_drewN | apply below_drew1) | exact HB.out)) hb); clear HB; have HB := n0_; clear n0_; (try clear hb); (try clear hb2); (try clear hk); (try clear hi)))
                  go_ret
                  exact ⟨by first | rfl | (simp [errW_none, errW_some] <;> rfl) | (simp [*, errW_none, errW_some] <;> rfl), by repeat (first | (with_reducible first | exact HB.out | apply below_alloc | apply pw_below_drewN | apply below_drew1) | exact HB.out)⟩
                · rw [if_neg c19] at H
                  have c19b0 : (t168.toList == ([] : List UInt8)) = false := beq_eq_false_iff_ne.mpr c19
                  have c19b1 : (t168.toList != ([] : List UInt8)) = true := bne_iff_ne.mpr c19
                  obtain rfl := Option.some.inj H
                  go_wp2_with (first | ((with_reducible refine gate_callee (f := 16) rfl ?_); refine goesL_ (some 21) rfl rfl Try.func16 (by kernel_rfl) rfl #[.string a0] rfl (by (try simp only [List.map_toArray, List.map_cons, List.map_nil]); first | done | rfl | (simp only [List.length_drop, List.length_take]; rfl)) ?_; (with_reducible refine (key_After.calls kj2 a0 t168 _ A13.out).mono ?_); rintro e w21 ⟨rfl, hb⟩; refine ⟨_, rfl, ?_⟩; have n0_ := Aside0.mk (below_step (by repeat (first | (with_reducible first | exact HB.out | apply below_alloc | apply pw_below_drewN | apply below_drew1) | exact HB.out)) hb); clear HB; have HB := n0_; clear n0_; (try clear hb); (try clear hb2); (try clear hk); (try clear hi)))
                  go_ret
                  exact ⟨by first | rfl | (simp [errW_none, errW_some] <;> rfl) | (simp [*, errW_none, errW_some] <;> rfl), by repeat (first | (with_reducible first | exact HB.out | apply below_alloc | apply pw_below_drewN | apply below_drew1) | exact HB.out)⟩
            · rw [if_neg c16] at H
              exact absurd H (by simp)
          · rw [if_neg c15] at H
            exact absurd H (by simp)
        · rw [if_neg c14] at H
          have c14b0 : decide ((a0.size : Int) ≤ (a1.size : Int)) = false := decide_eq_false c14
          have c14b1 : decide (a0.size ≤ a1.size) = false := decide_eq_false (fun h => c14 (Int.ofNat_le.mpr h))
          clear c14
          by_cases c22 : ((Op.bytesLess a1.toList a0.toList) = true)
          · rw [if_pos c22] at H
            have c22b0 : (Op.bytesLess a1.toList a0.toList) = true := c22
            clear c22
            obtain rfl := Option.some.inj H
            go_wp2_with (first | ((with_reducible refine gate_callee (f := 16) rfl ?_); refine goesL_ (some 21) rfl rfl Try.func16 (by kernel_rfl) rfl #[.string a0] rfl (by (try simp only [List.map_toArray, List.map_cons, List.map_nil]); first | done | rfl | (simp only [List.length_drop, List.length_take]; rfl)) ?_; (with_reducible refine (key_After.calls kj2 a0 t168 _ A13.out).mono ?_); rintro e w23 ⟨rfl, hb⟩; refine ⟨_, rfl, ?_⟩; have n0_ := Aside0.mk (below_step (by repeat (first | (with_reducible first | exact HB.out | apply below_alloc | apply pw_below_drewN | apply below_drew1) | exact HB.out)) hb); clear HB; have HB := n0_; clear n0_; (try clear hb); (try clear hb2); (try clear hk); (try clear hi)))
            go_ret
            exact ⟨by first | rfl | (simp [errW_none, errW_some] <;> rfl) | (simp [*, errW_none, errW_some] <;> rfl), by repeat (first | (with_reducible first | exact HB.out | apply below_alloc | apply pw_below_drewN | apply below_drew1) | exact HB.out)⟩
          · rw [if_neg c22] at H
            have c22b0 : (Op.bytesLess a1.toList a0.toList) = false := by simpa using c22
            clear c22
            by_cases c24 : t168.toList = ([] : List UInt8)
            · rw [if_pos c24] at H
              have c24b0 : (t168.toList == ([] : List UInt8)) = true := beq_iff_eq.mpr c24
              have c24b1 : (t168.toList != ([] : List UInt8)) = false := bne_eq_false_iff_eq.mpr c24
              clear c24
              obtain rfl := Option.some.inj H
              go_wp2_with (first | ((with_reducible refine gate_callee (f := 16) rfl ?_); refine goesL_ (some 21) rfl rfl Try.func16 (by kernel_rfl) rfl #[.string a0] rfl (by (try simp only [List.map_toArray, List.map_cons, List.map_nil]); first | done | rfl | (simp only [List.length_drop, List.length_take]; rfl)) ?_; (with_reducible refine (key_After.calls kj2 a0 t168 _ A13.out).mono ?_); rintro e w25 ⟨rfl, hb⟩; refine ⟨_, rfl, ?_⟩; have n0_ := Aside0.mk (below_step (by repeat (first | (with_reducible first | exact HB.out | apply below_alloc | apply pw_below_drewN | apply below_drew1) | exact HB.out)) hb); clear HB; have HB := n0_; clear n0_; (try clear hb); (try clear hb2); (try clear hk); (try clear hi)))
              go_ret
              exact ⟨by first | rfl | (simp [errW_none, errW_some] <;> rfl) | (simp [*, errW_none, errW_some] <;> rfl), by repeat (first | (with_reducible first | exact HB.out | apply below_alloc | apply pw_below_drewN | apply below_drew1) | exact HB.out)⟩
            · rw [if_neg c24] at H
              have c24b0 : (t168.toList == ([] : List UInt8)) = false := beq_eq_false_iff_ne.mpr c24
              have c24b1 : (t168.toList != ([] : List UInt8)) = true := bne_iff_ne.mpr c24
              obtain rfl := Option.some.inj H
              go_wp2_with (first | ((with_reducible refine gate_callee (f := 16) rfl ?_); refine goesL_ (some 21) rfl rfl Try.func16 (by kernel_rfl) rfl #[.string a0] rfl (by (try simp only [List.map_toArray, List.map_cons, List.map_nil]); first | done | rfl | (simp only [List.length_drop, List.length_take]; rfl)) ?_; (with_reducible refine (key_After.calls kj2 a0 t168 _ A13.out).mono ?_); rintro e w26 ⟨rfl, hb⟩; refine ⟨_, rfl, ?_⟩; have n0_ := Aside0.mk (below_step (by repeat (first | (with_reducible first | exact HB.out | apply below_alloc | apply pw_below_drewN | apply below_drew1) | exact HB.out)) hb); clear HB; have HB := n0_; clear n0_; (try clear hb); (try clear hb2); (try clear hk); (try clear hi)))
              go_ret
              exact ⟨by first | rfl | (simp [errW_none, errW_some] <;> rfl) | (simp [*, errW_none, errW_some] <;> rfl), by repeat (first | (with_reducible first | exact HB.out | apply below_alloc | apply pw_below_drewN | apply below_drew1) | exact HB.out)⟩

/-- THE ONE PURE STATEMENT of conductorlaw03_KeyAfter: yours. -/
def conductorlaw03_KeyAfter.Pure : Prop := ∀ (a0 : ByteArray) (a1 : ByteArray), a0.size ≤ 140737488351232 → a1.size ≤ 140737488351232 → ∃ k, conductorlaw03_KeyAfter.f k a0 a1 = some true
theorem conductorlaw03_KeyAfter.walk (P : conductorlaw03_KeyAfter.Pure) (a0 : ByteArray) (a1 : ByteArray) (w : World) (w0 : a0.size ≤ 140737488351232) (w1 : a1.size ≤ 140737488351232) :
    Calls Try.prog 5 #[.string a0, .string a1] w fun e w' => e = .returned (.bool true) ∧ Below w.heap.size w w' := by
  obtain ⟨k, h⟩ := P a0 a1 w0 w1
  refine (conductorlaw03_KeyAfter.calls k a0 a1 true w h).mono ?_
  rintro e w' ⟨rfl, hd⟩
  exact ⟨rfl, hd⟩

end Go.Proofs.Ytnkcooeobmeahaa.Z
