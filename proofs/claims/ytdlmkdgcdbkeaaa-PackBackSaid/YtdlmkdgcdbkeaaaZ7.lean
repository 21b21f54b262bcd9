/- Each Go function that the statements reach, as a plain Lean function, and a proof that the call comes to what it says. -/
import Derived.Test.YtdlmkdgcdbkeaaaZ0
import Derived.Test.YtdlmkdgcdbkeaaaZ1
import Derived.Test.YtdlmkdgcdbkeaaaZ2
import Derived.Test.YtdlmkdgcdbkeaaaZ5
namespace Go.Proofs.Ytdlmkdgcdbkeaaa.Z
open Go.RowKit Go.Proofs.YtdlmkdgcdbkeaaaW.PrintWords Go.Proofs.YtdlmkdgcdbkeaaaW.PrintLast Go.Proofs.YtdlmkdgcdbkeaaaW.PrintMore
attribute [local go_sem] max2_int min2_int max_two min_two max_three min_three max_four min_four   -- for this text's walks alone
attribute [local go_sem] Go.Proofs.Ytdlmkdgcdbkeaaa.Str.gtr_str Go.Proofs.Ytdlmkdgcdbkeaaa.Str.leq_str Go.Proofs.Ytdlmkdgcdbkeaaa.Str.geq_str
set_option linter.unusedVariables false
set_option linter.unusedSimpArgs false

/-! ### conductorlaw01_PackShort: function 4 -/
def conductorlaw01_PackShort.f (k : Nat) (a0 : Int) (a1 : Int) : Option (Bool) := (conductorlaw01_live.f k).bind fun t204 => (if t204 = true then ((pack_Uint.f k (mn a0 a1)).bind fun t205 => ((pack_Uint.f k (mx a0 a1)).bind fun t208 => (if (t205.length : Int) > (t208.length : Int) then (some false) else (if (t208.length : Int) > 10 then (some false) else (if (t205.length : Int) = 0 then (some false) else (if (wrap64 ((t205.length : Int) * 7)) ≥ 64 then (if (t205.length : Int) = 1 then (some true) else (if 0 ≤ (IntKind.u64.wrap (wrap64 ((wrap64 ((t205.length : Int) * 7)) - 7))) then (some (decide ((shr .u64 (mn a0 a1) (IntKind.u64.wrap (wrap64 ((wrap64 ((t205.length : Int) * 7)) - 7)))) > 0))) else (none))) else (if 0 ≤ (IntKind.u64.wrap (wrap64 ((t205.length : Int) * 7))) then (if (shr .u64 (mn a0 a1) (IntKind.u64.wrap (wrap64 ((t205.length : Int) * 7)))) = 0 then (if (t205.length : Int) = 1 then (some true) else (if 0 ≤ (IntKind.u64.wrap (wrap64 ((wrap64 ((t205.length : Int) * 7)) - 7))) then (some (decide ((shr .u64 (mn a0 a1) (IntKind.u64.wrap (wrap64 ((wrap64 ((t205.length : Int) * 7)) - 7)))) > 0))) else (none))) else (some false)) else (none)))))))) else (some false))
theorem conductorlaw01_PackShort.mono : ∀ a0 a1 k, LeO (conductorlaw01_PackShort.f k a0 a1) (conductorlaw01_PackShort.f (k + 1) a0 a1) := by
  intro a0 a1 k
  unfold conductorlaw01_PackShort.f
  repeat' first
      | (with_reducible exact conductorlaw01_live.mono _)
      | (with_reducible exact pack_Uint.mono _ _)
      | (with_reducible exact LeO.refl _)
      | (with_reducible exact LeO.none _)
      | (with_reducible refine LeO.ite ?_ ?_)
      | (with_reducible refine LeO.bind ?_ (fun _ => ?_))
      | exact conductorlaw01_live.mono _
      | exact pack_Uint.mono _ _
      | exact LeO.none _
      | refine LeO.ite ?_ ?_
      | refine LeO.bind ?_ (fun _ => ?_)
set_option maxHeartbeats 8000000 in
set_option maxRecDepth 100000 in
theorem conductorlaw01_PackShort.calls (k : Nat) (a0 : Int) (a1 : Int) (r : Bool) (w : World) (h : conductorlaw01_PackShort.f k a0 a1 = some r) :
    Calls Try.prog 4 #[.int .u64 a0, .int .u64 a1] w fun e w' => e = .returned (.bool r) ∧ Below w.heap.size w w' := by
  have HB := Aside0.mk (Below.refl w.heap.size w)
  have H : ((conductorlaw01_live.f k).bind fun t204 => (if t204 = true then ((pack_Uint.f k (mn a0 a1)).bind fun t205 => ((pack_Uint.f k (mx a0 a1)).bind fun t208 => (if (t205.length : Int) > (t208.length : Int) then (some false) else (if (t208.length : Int) > 10 then (some false) else (if (t205.length : Int) = 0 then (some false) else (if (wrap64 ((t205.length : Int) * 7)) ≥ 64 then (if (t205.length : Int) = 1 then (some true) else (if 0 ≤ (IntKind.u64.wrap (wrap64 ((wrap64 ((t205.length : Int) * 7)) - 7))) then (some (decide ((shr .u64 (mn a0 a1) (IntKind.u64.wrap (wrap64 ((wrap64 ((t205.length : Int) * 7)) - 7)))) > 0))) else (none))) else (if 0 ≤ (IntKind.u64.wrap (wrap64 ((t205.length : Int) * 7))) then (if (shr .u64 (mn a0 a1) (IntKind.u64.wrap (wrap64 ((t205.length : Int) * 7)))) = 0 then (if (t205.length : Int) = 1 then (some true) else (if 0 ≤ (IntKind.u64.wrap (wrap64 ((wrap64 ((t205.length : Int) * 7)) - 7))) then (some (decide ((shr .u64 (mn a0 a1) (IntKind.u64.wrap (wrap64 ((wrap64 ((t205.length : Int) * 7)) - 7)))) > 0))) else (none))) else (some false)) else (none)))))))) else (some false))) = some r := h
  clear h
  replace H := Option.bind_eq_some_iff.mp H
  obtain ⟨t204, A30, H⟩ := H
  replace H : (if t204 = true then ((pack_Uint.f k (mn a0 a1)).bind fun t205 => ((pack_Uint.f k (mx a0 a1)).bind fun t208 => (if (t205.length : Int) > (t208.length : Int) then (some false) else (if (t208.length : Int) > 10 then (some false) else (if (t205.length : Int) = 0 then (some false) else (if (wrap64 ((t205.length : Int) * 7)) ≥ 64 then (if (t205.length : Int) = 1 then (some true) else (if 0 ≤ (IntKind.u64.wrap (wrap64 ((wrap64 ((t205.length : Int) * 7)) - 7))) then (some (decide ((shr .u64 (mn a0 a1) (IntKind.u64.wrap (wrap64 ((wrap64 ((t205.length : Int) * 7)) - 7)))) > 0))) else (none))) else (if 0 ≤ (IntKind.u64.wrap (wrap64 ((t205.length : Int) * 7))) then (if (shr .u64 (mn a0 a1) (IntKind.u64.wrap (wrap64 ((t205.length : Int) * 7)))) = 0 then (if (t205.length : Int) = 1 then (some true) else (if 0 ≤ (IntKind.u64.wrap (wrap64 ((wrap64 ((t205.length : Int) * 7)) - 7))) then (some (decide ((shr .u64 (mn a0 a1) (IntKind.u64.wrap (wrap64 ((wrap64 ((t205.length : Int) * 7)) - 7)))) > 0))) else (none))) else (some false)) else (none)))))))) else (some false)) = some r := H
  have A3 := Aside0.mk A30
  clear A30
  by_cases c4 : t204 = true
  · subst c4
    have H1 : ((pack_Uint.f k (mn a0 a1)).bind fun t205 => ((pack_Uint.f k (mx a0 a1)).bind fun t208 => (if (t205.length : Int) > (t208.length : Int) then (some false) else (if (t208.length : Int) > 10 then (some false) else (if (t205.length : Int) = 0 then (some false) else (if (wrap64 ((t205.length : Int) * 7)) ≥ 64 then (if (t205.length : Int) = 1 then (some true) else (if 0 ≤ (IntKind.u64.wrap (wrap64 ((wrap64 ((t205.length : Int) * 7)) - 7))) then (some (decide ((shr .u64 (mn a0 a1) (IntKind.u64.wrap (wrap64 ((wrap64 ((t205.length : Int) * 7)) - 7)))) > 0))) else (none))) else (if 0 ≤ (IntKind.u64.wrap (wrap64 ((t205.length : Int) * 7))) then (if (shr .u64 (mn a0 a1) (IntKind.u64.wrap (wrap64 ((t205.length : Int) * 7)))) = 0 then (if (t205.length : Int) = 1 then (some true) else (if 0 ≤ (IntKind.u64.wrap (wrap64 ((wrap64 ((t205.length : Int) * 7)) - 7))) then (some (decide ((shr .u64 (mn a0 a1) (IntKind.u64.wrap (wrap64 ((wrap64 ((t205.length : Int) * 7)) - 7)))) > 0))) else (none))) else (some false)) else (none)))))))) = some r := by rw [if_pos rfl] at H; exact H
    clear H
    have H := H1
    clear H1
    obtain ⟨ji5, hji5⟩ : ∃ j_ : Int, (mn a0 a1) = j_ := ⟨_, rfl⟩
    replace H : ((pack_Uint.f k (ji5)).bind fun t205 => ((pack_Uint.f k (mx a0 a1)).bind fun t208 => (if (t205.length : Int) > (t208.length : Int) then (some false) else (if (t208.length : Int) > 10 then (some false) else (if (t205.length : Int) = 0 then (some false) else (if (wrap64 ((t205.length : Int) * 7)) ≥ 64 then (if (t205.length : Int) = 1 then (some true) else (if 0 ≤ (IntKind.u64.wrap (wrap64 ((wrap64 ((t205.length : Int) * 7)) - 7))) then (some (decide ((shr .u64 (ji5) (IntKind.u64.wrap (wrap64 ((wrap64 ((t205.length : Int) * 7)) - 7)))) > 0))) else (none))) else (if 0 ≤ (IntKind.u64.wrap (wrap64 ((t205.length : Int) * 7))) then (if (shr .u64 (ji5) (IntKind.u64.wrap (wrap64 ((t205.length : Int) * 7)))) = 0 then (if (t205.length : Int) = 1 then (some true) else (if 0 ≤ (IntKind.u64.wrap (wrap64 ((wrap64 ((t205.length : Int) * 7)) - 7))) then (some (decide ((shr .u64 (ji5) (IntKind.u64.wrap (wrap64 ((wrap64 ((t205.length : Int) * 7)) - 7)))) > 0))) else (none))) else (some false)) else (none)))))))) = some r := by first | (rw [hji5] at H; exact H) | (simp only [hji5] at H ⊢; exact H)
    (try rw [hji5] at A3)
    have hji5_ : (if a1 < a0 then a1 else a0) = ji5 := hji5
    replace H := Option.bind_eq_some_iff.mp H
    obtain ⟨t205, A60, H⟩ := H
    replace H : ((pack_Uint.f k (mx a0 a1)).bind fun t208 => (if (t205.length : Int) > (t208.length : Int) then (some false) else (if (t208.length : Int) > 10 then (some false) else (if (t205.length : Int) = 0 then (some false) else (if (wrap64 ((t205.length : Int) * 7)) ≥ 64 then (if (t205.length : Int) = 1 then (some true) else (if 0 ≤ (IntKind.u64.wrap (wrap64 ((wrap64 ((t205.length : Int) * 7)) - 7))) then (some (decide ((shr .u64 (ji5) (IntKind.u64.wrap (wrap64 ((wrap64 ((t205.length : Int) * 7)) - 7)))) > 0))) else (none))) else (if 0 ≤ (IntKind.u64.wrap (wrap64 ((t205.length : Int) * 7))) then (if (shr .u64 (ji5) (IntKind.u64.wrap (wrap64 ((t205.length : Int) * 7)))) = 0 then (if (t205.length : Int) = 1 then (some true) else (if 0 ≤ (IntKind.u64.wrap (wrap64 ((wrap64 ((t205.length : Int) * 7)) - 7))) then (some (decide ((shr .u64 (ji5) (IntKind.u64.wrap (wrap64 ((wrap64 ((t205.length : Int) * 7)) - 7)))) > 0))) else (none))) else (some false)) else (none))))))) = some r := H
    have A6 := Aside0.mk A60
    clear A60
    obtain ⟨ji7, hji7⟩ : ∃ j_ : Int, (mx a0 a1) = j_ := ⟨_, rfl⟩
    replace H : ((pack_Uint.f k (ji7)).bind fun t208 => (if (t205.length : Int) > (t208.length : Int) then (some false) else (if (t208.length : Int) > 10 then (some false) else (if (t205.length : Int) = 0 then (some false) else (if (wrap64 ((t205.length : Int) * 7)) ≥ 64 then (if (t205.length : Int) = 1 then (some true) else (if 0 ≤ (IntKind.u64.wrap (wrap64 ((wrap64 ((t205.length : Int) * 7)) - 7))) then (some (decide ((shr .u64 (ji5) (IntKind.u64.wrap (wrap64 ((wrap64 ((t205.length : Int) * 7)) - 7)))) > 0))) else (none))) else (if 0 ≤ (IntKind.u64.wrap (wrap64 ((t205.length : Int) * 7))) then (if (shr .u64 (ji5) (IntKind.u64.wrap (wrap64 ((t205.length : Int) * 7)))) = 0 then (if (t205.length : Int) = 1 then (some true) else (if 0 ≤ (IntKind.u64.wrap (wrap64 ((wrap64 ((t205.length : Int) * 7)) - 7))) then (some (decide ((shr .u64 (ji5) (IntKind.u64.wrap (wrap64 ((wrap64 ((t205.length : Int) * 7)) - 7)))) > 0))) else (none))) else (some false)) else (none))))))) = some r := by first | (rw [hji7] at H; exact H) | (simp only [hji7] at H ⊢; exact H)
    (try rw [hji7] at A3)
    (try rw [hji7] at A6)
    have hji7_ : (if a0 < a1 then a1 else a0) = ji7 := hji7
    replace H := Option.bind_eq_some_iff.mp H
    obtain ⟨t208, A80, H⟩ := H
    replace H : (if (t205.length : Int) > (t208.length : Int) then (some false) else (if (t208.length : Int) > 10 then (some false) else (if (t205.length : Int) = 0 then (some false) else (if (wrap64 ((t205.length : Int) * 7)) ≥ 64 then (if (t205.length : Int) = 1 then (some true) else (if 0 ≤ (IntKind.u64.wrap (wrap64 ((wrap64 ((t205.length : Int) * 7)) - 7))) then (some (decide ((shr .u64 (ji5) (IntKind.u64.wrap (wrap64 ((wrap64 ((t205.length : Int) * 7)) - 7)))) > 0))) else (none))) else (if 0 ≤ (IntKind.u64.wrap (wrap64 ((t205.length : Int) * 7))) then (if (shr .u64 (ji5) (IntKind.u64.wrap (wrap64 ((t205.length : Int) * 7)))) = 0 then (if (t205.length : Int) = 1 then (some true) else (if 0 ≤ (IntKind.u64.wrap (wrap64 ((wrap64 ((t205.length : Int) * 7)) - 7))) then (some (decide ((shr .u64 (ji5) (IntKind.u64.wrap (wrap64 ((wrap64 ((t205.length : Int) * 7)) - 7)))) > 0))) else (none))) else (some false)) else (none)))))) = some r := H
    have A8 := Aside0.mk A80
    clear A80
    by_cases c9 : (t205.length : Int) > (t208.length : Int)
    · rw [if_pos c9] at H
      have c9b0 : decide ((t208.length : Int) < (t205.length : Int)) = true := decide_eq_true c9
      have c9b1 : decide (t208.length < t205.length) = true := decide_eq_true (Int.ofNat_lt.mp c9)
      clear c9
      obtain rfl := Option.some.inj H
      go_enter Try.func4, Try.ntmps4
      go_wp2_with (first | ((with_reducible refine gate_callee (f := 10) rfl ?_); refine goesL_ (some 8) rfl rfl Try.func10 (by kernel_rfl) rfl #[] rfl (by (try simp only [List.map_toArray, List.map_cons, List.map_nil]); first | done | rfl | (simp only [List.length_drop, List.length_take]; rfl)) ?_; (with_reducible refine (conductorlaw01_live.calls k  true _ A3.out).mono ?_); rintro e w10 ⟨rfl, hb⟩; refine ⟨_, rfl, ?_⟩; have n0_ := Aside0.mk (below_step (by repeat (first | (with_reducible first | exact HB.out | apply below_alloc | apply pw_below_drewN | apply below_drew1) | exact HB.out)) hb); clear HB; have HB := n0_; clear n0_; (try clear hb); (try clear hb2); (try clear hk); (try clear hi)) | ((with_reducible refine gate_callee (f := 16) rfl ?_); refine goesL_ (some 13) rfl rfl Try.func16 (by kernel_rfl) rfl #[.int .u64 ji5] rfl (by (try simp only [List.map_toArray, List.map_cons, List.map_nil]); first | done | (simp only [hji5]; rfl) | rfl | (simp only [List.length_drop, List.length_take]; rfl)) ?_; (with_reducible refine (pack_Uint.calls k ji5 t205 _ A6.out).mono ?_); rintro e w11 ⟨v206, rfl, ho0, hb⟩; refine ⟨_, rfl, ?_⟩; have n0_ := Aside0.mk (Kd.R_lower ho0 (below_size (by repeat (first | (with_reducible first | exact HB.out | apply below_alloc | apply pw_below_drewN | apply below_drew1) | exact HB.out)))); have n1_ := Aside0.mk (below_step (by repeat (first | (with_reducible first | exact HB.out | apply below_alloc | apply pw_below_drewN | apply below_drew1) | exact HB.out)) hb); clear HB; have HO207 := n0_; have HB := n1_; clear n0_ n1_; (try clear hb); (try clear hb2); (try clear hk); (try clear hi); (try clear ho0)) | ((with_reducible refine gate_callee (f := 16) rfl ?_); refine goesL_ (some 17) rfl rfl Try.func16 (by kernel_rfl) rfl #[.int .u64 ji7] rfl (by (try simp only [List.map_toArray, List.map_cons, List.map_nil]); first | done | (simp only [hji7]; rfl) | rfl | (simp only [List.length_drop, List.length_take]; rfl)) ?_; (with_reducible refine (pack_Uint.calls k ji7 t208 _ A8.out).mono ?_); rintro e w12 ⟨v209, rfl, ho0, hb⟩; refine ⟨_, rfl, ?_⟩; have n0_ := Aside0.mk (Kd.R_elder' (by (with_reducible repeat (first | apply Kd.R_alloc | apply Kd.R_drewN | apply Kd.R_drew)); exact HO207.out) (Kd.R_base ho0) hb); have n1_ := Aside0.mk (Kd.R_lower (Kd.R_new' ho0 (Kd.R_lt (by (with_reducible repeat (first | apply Kd.R_alloc | apply Kd.R_drewN | apply Kd.R_drew)); exact HO207.out))) (below_size (by repeat (first | (with_reducible first | exact HB.out | apply below_alloc | apply pw_below_drewN | apply below_drew1) | exact HB.out)))); have n2_ := Aside0.mk (below_step (by repeat (first | (with_reducible first | exact HB.out | apply below_alloc | apply pw_below_drewN | apply below_drew1) | exact HB.out)) hb); clear HO207; clear HB; have HO207 := n0_; have HO210 := n1_; have HB := n2_; clear n0_ n1_ n2_; (try clear hb); (try clear hb2); (try clear hk); (try clear hi); (try clear ho0); obtain ⟨Ao13, co13, eo13⟩ := Kd.R_slice HO207.out; subst eo13; obtain ⟨Ao14, co14, eo14⟩ := Kd.R_slice HO210.out; subst eo14))
      go_ret
      exact ⟨by first | rfl | (simp [errW_none, errW_some] <;> rfl) | (simp only [← hji5, ← hji7]; first | rfl | (simp [errW_none, errW_some] <;> rfl)) | (simp [*, errW_none, errW_some] <;> rfl), by repeat (first | (with_reducible first | exact HB.out | apply below_alloc | apply pw_below_drewN | apply below_drew1) | exact HB.out)⟩
    · rw [if_neg c9] at H
      have c9b0 : decide ((t208.length : Int) < (t205.length : Int)) = false := decide_eq_false c9
      have c9b1 : decide (t208.length < t205.length) = false := decide_eq_false (fun h => c9 (Int.ofNat_lt.mpr h))
      clear c9
      by_cases c15 : (t208.length : Int) > 10
      · rw [if_pos c15] at H
        have c15b0 : decide (10 < (t208.length : Int)) = true := decide_eq_true c15
        have c15b1 : decide (10 < t208.length) = true := decide_eq_true (by omega)
        clear c15
        obtain rfl := Option.some.inj H
        go_enter Try.func4, Try.ntmps4
        go_wp2_with (first | ((with_reducible refine gate_callee (f := 10) rfl ?_); refine goesL_ (some 8) rfl rfl Try.func10 (by kernel_rfl) rfl #[] rfl (by (try simp only [List.map_toArray, List.map_cons, List.map_nil]); first | done | rfl | (simp only [List.length_drop, List.length_take]; rfl)) ?_; (with_reducible refine (conductorlaw01_live.calls k  true _ A3.out).mono ?_); rintro e w16 ⟨rfl, hb⟩; refine ⟨_, rfl, ?_⟩; have n0_ := Aside0.mk (below_step (by repeat (first | (with_reducible first | exact HB.out | apply below_alloc | apply pw_below_drewN | apply below_drew1) | exact HB.out)) hb); clear HB; have HB := n0_; clear n0_; (try clear hb); (try clear hb2); (try clear hk); (try clear hi)) | ((with_reducible refine gate_callee (f := 16) rfl ?_); refine goesL_ (some 13) rfl rfl Try.func16 (by kernel_rfl) rfl #[.int .u64 ji5] rfl (by (try simp only [List.map_toArray, List.map_cons, List.map_nil]); first | done | (simp only [hji5]; rfl) | rfl | (simp only [List.length_drop, List.length_take]; rfl)) ?_; (with_reducible refine (pack_Uint.calls k ji5 t205 _ A6.out).mono ?_); rintro e w17 ⟨v206, rfl, ho0, hb⟩; refine ⟨_, rfl, ?_⟩; have n0_ := Aside0.mk (Kd.R_lower ho0 (below_size (by repeat (first | (with_reducible first | exact HB.out | apply below_alloc | apply pw_below_drewN | apply below_drew1) | exact HB.out)))); have n1_ := Aside0.mk (below_step (by repeat (first | (with_reducible first | exact HB.out | apply below_alloc | apply pw_below_drewN | apply below_drew1) | exact HB.out)) hb); clear HB; have HO207 := n0_; have HB := n1_; clear n0_ n1_; (try clear hb); (try clear hb2); (try clear hk); (try clear hi); (try clear ho0)) | ((with_reducible refine gate_callee (f := 16) rfl ?_); refine goesL_ (some 17) rfl rfl Try.func16 (by kernel_rfl) rfl #[.int .u64 ji7] rfl (by (try simp only [List.map_toArray, List.map_cons, List.map_nil]); first | done | (simp only [hji7]; rfl) | rfl | (simp only [List.length_drop, List.length_take]; rfl)) ?_; (with_reducible refine (pack_Uint.calls k ji7 t208 _ A8.out).mono ?_); rintro e w18 ⟨v209, rfl, ho0, hb⟩; refine ⟨_, rfl, ?_⟩; have n0_ := Aside0.mk (Kd.R_elder' (by (with_reducible repeat (first | apply Kd.R_alloc | apply Kd.R_drewN | apply Kd.R_drew)); exact HO207.out) (Kd.R_base ho0) hb); have n1_ := Aside0.mk (Kd.R_lower (Kd.R_new' ho0 (Kd.R_lt (by (with_reducible repeat (first | apply Kd.R_alloc | apply Kd.R_drewN | apply Kd.R_drew)); exact HO207.out))) (below_size (by repeat (first | (with_reducible first | exact HB.out | apply below_alloc | apply pw_below_drewN | apply below_drew1) | exact HB.out)))); have n2_ := Aside0.mk (below_step (by repeat (first | (with_reducible first | exact HB.out | apply below_alloc | apply pw_below_drewN | apply below_drew1) | exact HB.out)) hb); clear HO207; clear HB; have HO207 := n0_; have HO210 := n1_; have HB := n2_; clear n0_ n1_ n2_; (try clear hb); (try clear hb2); (try clear hk); (try clear hi); (try clear ho0); obtain ⟨Ao19, co19, eo19⟩ := Kd.R_slice HO207.out; subst eo19; obtain ⟨Ao20, co20, eo20⟩ := Kd.R_slice HO210.out; subst eo20))
        go_ret
        exact ⟨by first | rfl | (simp [errW_none, errW_some] <;> rfl) | (simp only [← hji5, ← hji7]; first | rfl | (simp [errW_none, errW_some] <;> rfl)) | (simp [*, errW_none, errW_some] <;> rfl), by repeat (first | (with_reducible first | exact HB.out | apply below_alloc | apply pw_below_drewN | apply below_drew1) | exact HB.out)⟩
      · rw [if_neg c15] at H
        have c15b0 : decide (10 < (t208.length : Int)) = false := decide_eq_false c15
        have c15b1 : decide (10 < t208.length) = false := decide_eq_false (by omega)
        clear c15
        by_cases c21 : (t205.length : Int) = 0
        · rw [if_pos c21] at H
          have c21b0 : ((t205.length : Int) == 0) = true := beq_iff_eq.mpr c21
          have c21b1 : ((t205.length : Int) != 0) = false := bne_eq_false_iff_eq.mpr c21
          clear c21
          obtain rfl := Option.some.inj H
          go_enter Try.func4, Try.ntmps4
          go_wp2_with (first | ((with_reducible refine gate_callee (f := 10) rfl ?_); refine goesL_ (some 8) rfl rfl Try.func10 (by kernel_rfl) rfl #[] rfl (by (try simp only [List.map_toArray, List.map_cons, List.map_nil]); first | done | rfl | (simp only [List.length_drop, List.length_take]; rfl)) ?_; (with_reducible refine (conductorlaw01_live.calls k  true _ A3.out).mono ?_); rintro e w22 ⟨rfl, hb⟩; refine ⟨_, rfl, ?_⟩; have n0_ := Aside0.mk (below_step (by repeat (first | (with_reducible first | exact HB.out | apply below_alloc | apply pw_below_drewN | apply below_drew1) | exact HB.out)) hb); clear HB; have HB := n0_; clear n0_; (try clear hb); (try clear hb2); (try clear hk); (try clear hi)) | ((with_reducible refine gate_callee (f := 16) rfl ?_); refine goesL_ (some 13) rfl rfl Try.func16 (by kernel_rfl) rfl #[.int .u64 ji5] rfl (by (try simp only [List.map_toArray, List.map_cons, List.map_nil]); first | done | (simp only [hji5]; rfl) | rfl | (simp only [List.length_drop, List.length_take]; rfl)) ?_; (with_reducible refine (pack_Uint.calls k ji5 t205 _ A6.out).mono ?_); rintro e w23 ⟨v206, rfl, ho0, hb⟩; refine ⟨_, rfl, ?_⟩; have n0_ := Aside0.mk (Kd.R_lower ho0 (below_size (by repeat (first | (with_reducible first | exact HB.out | apply below_alloc | apply pw_below_drewN | apply below_drew1) | exact HB.out)))); have n1_ := Aside0.mk (below_step (by repeat (first | (with_reducible first | exact HB.out | apply below_alloc | apply pw_below_drewN | apply below_drew1) | exact HB.out)) hb); clear HB; have HO207 := n0_; have HB := n1_; clear n0_ n1_; (try clear hb); (try clear hb2); (try clear hk); (try clear hi); (try clear ho0)) | ((with_reducible refine gate_callee (f := 16) rfl ?_); refine goesL_ (some 17) rfl rfl Try.func16 (by kernel_rfl) rfl #[.int .u64 ji7] rfl (by (try simp only [List.map_toArray, List.map_cons, List.map_nil]); first | done | (simp only [hji7]; rfl) | rfl | (simp only [List.length_drop, List.length_take]; rfl)) ?_; (with_reducible refine (pack_Uint.calls k ji7 t208 _ A8.out).mono ?_); rintro e w24 ⟨v209, rfl, ho0, hb⟩; refine ⟨_, rfl, ?_⟩; have n0_ := Aside0.mk (Kd.R_elder' (by (with_reducible repeat (first | apply Kd.R_alloc | apply Kd.R_drewN | apply Kd.R_drew)); exact HO207.out) (Kd.R_base ho0) hb); have n1_ := Aside0.mk (Kd.R_lower (Kd.R_new' ho0 (Kd.R_lt (by (with_reducible repeat (first | apply Kd.R_alloc | apply Kd.R_drewN | apply Kd.R_drew)); exact HO207.out))) (below_size (by repeat (first | (with_reducible first | exact HB.out | apply below_alloc | apply pw_below_drewN | apply below_drew1) | exact HB.out)))); have n2_ := Aside0.mk (below_step (by repeat (first | (with_reducible first | exact HB.out | apply below_alloc | apply pw_below_drewN | apply below_drew1) | exact HB.out)) hb); clear HO207; clear HB; have HO207 := n0_; have HO210 := n1_; have HB := n2_; clear n0_ n1_ n2_; (try clear hb); (try clear hb2); (try clear hk); (try clear hi); (try clear ho0); obtain ⟨Ao25, co25, eo25⟩ := Kd.R_slice HO207.out; subst eo25; obtain ⟨Ao26, co26, eo26⟩ := Kd.R_slice HO210.out; subst eo26))
          go_ret
          exact ⟨by first | rfl | (simp [errW_none, errW_some] <;> rfl) | (simp only [← hji5, ← hji7]; first | rfl | (simp [errW_none, errW_some] <;> rfl)) | (simp [*, errW_none, errW_some] <;> rfl), by repeat (first | (with_reducible first | exact HB.out | apply below_alloc | apply pw_below_drewN | apply below_drew1) | exact HB.out)⟩
        · rw [if_neg c21] at H
          have c21b0 : ((t205.length : Int) == 0) = false := beq_eq_false_iff_ne.mpr c21
          have c21b1 : ((t205.length : Int) != 0) = true := bne_iff_ne.mpr c21
          have c21b2 : ¬ (t205 = []) := fun h_ => c21 (by rw [h_]; rfl)
          by_cases c27 : (wrap64 ((t205.length : Int) * 7)) ≥ 64
          · rw [if_pos c27] at H
            have c27b0 : decide (64 ≤ (wrap64 ((t205.length : Int) * 7))) = true := decide_eq_true c27
            clear c27
            by_cases c28 : (t205.length : Int) = 1
            · rw [if_pos c28] at H
              have c28b0 : ((t205.length : Int) == 1) = true := beq_iff_eq.mpr c28
              have c28b1 : ((t205.length : Int) != 1) = false := bne_eq_false_iff_eq.mpr c28
              clear c28
              obtain rfl := Option.some.inj H
              go_enter Try.func4, Try.ntmps4
              go_wp2_with (first | ((with_reducible refine gate_callee (f := 10) rfl ?_); refine goesL_ (some 8) rfl rfl Try.func10 (by kernel_rfl) rfl #[] rfl (by (try simp only [List.map_toArray, List.map_cons, List.map_nil]); first | done | rfl | (simp only [List.length_drop, List.length_take]; rfl)) ?_; (with_reducible refine (conductorlaw01_live.calls k  true _ A3.out).mono ?_); rintro e w29 ⟨rfl, hb⟩; refine ⟨_, rfl, ?_⟩; have n0_ := Aside0.mk (below_step (by repeat (first | (with_reducible first | exact HB.out | apply below_alloc | apply pw_below_drewN | apply below_drew1) | exact HB.out)) hb); clear HB; have HB := n0_; clear n0_; (try clear hb); (try clear hb2); (try clear hk); (try clear hi)) | ((with_reducible refine gate_callee (f := 16) rfl ?_); refine goesL_ (some 13) rfl rfl Try.func16 (by kernel_rfl) rfl #[.int .u64 ji5] rfl (by (try simp only [List.map_toArray, List.map_cons, List.map_nil]); first | done | (simp only [hji5]; rfl) | rfl | (simp only [List.length_drop, List.length_take]; rfl)) ?_; (with_reducible refine (pack_Uint.calls k ji5 t205 _ A6.out).mono ?_); rintro e w30 ⟨v206, rfl, ho0, hb⟩; refine ⟨_, rfl, ?_⟩; have n0_ := Aside0.mk (Kd.R_lower ho0 (below_size (by repeat (first | (with_reducible first | exact HB.out | apply below_alloc | apply pw_below_drewN | apply below_drew1) | exact HB.out)))); have n1_ := Aside0.mk (below_step (by repeat (first | (with_reducible first | exact HB.out | apply below_alloc | apply pw_below_drewN | apply below_drew1) | exact HB.out)) hb); clear HB; have HO207 := n0_; have HB := n1_; clear n0_ n1_; (try clear hb); (try clear hb2); (try clear hk); (try clear hi); (try clear ho0)) | ((with_reducible refine gate_callee (f := 16) rfl ?_); refine goesL_ (some 17) rfl rfl Try.func16 (by kernel_rfl) rfl #[.int .u64 ji7] rfl (by (try simp only [List.map_toArray, List.map_cons, List.map_nil]); first | done | (simp only [hji7]; rfl) | rfl | (simp only [List.length_drop, List.length_take]; rfl)) ?_; (with_reducible refine (pack_Uint.calls k ji7 t208 _ A8.out).mono ?_); rintro e w31 ⟨v209, rfl, ho0, hb⟩; refine ⟨_, rfl, ?_⟩; have n0_ := Aside0.mk (Kd.R_elder' (by (with_reducible repeat (first | apply Kd.R_alloc | apply Kd.R_drewN | apply Kd.R_drew)); exact HO207.out) (Kd.R_base ho0) hb); have n1_ := Aside0.mk (Kd.R_lower (Kd.R_new' ho0 (Kd.R_lt (by (with_reducible repeat (first | apply Kd.R_alloc | apply Kd.R_drewN | apply Kd.R_drew)); exact HO207.out))) (below_size (by repeat (first | (with_reducible first | exact HB.out | apply below_alloc | apply pw_below_drewN | apply below_drew1) | exact HB.out)))); have n2_ := Aside0.mk (below_step (by repeat (first | (with_reducible first | exact HB.out | apply below_alloc | apply pw_below_drewN | apply below_drew1) | exact HB.out)) hb); clear HO207; clear HB; have HO207 := n0_; have HO210 := n1_; have HB := n2_; clear n0_ n1_ n2_; (try clear hb); (try clear hb2); (try clear hk); (try clear hi); (try clear ho0); obtain ⟨Ao32, co32, eo32⟩ := Kd.R_slice HO207.out; subst eo32; obtain ⟨Ao33, co33, eo33⟩ := Kd.R_slice HO210.out; subst eo33))
              go_ret
              exact ⟨by first | rfl | (simp [errW_none, errW_some] <;> rfl) | (simp only [← hji5, ← hji7]; first | rfl | (simp [errW_none, errW_some] <;> rfl)) | (simp [*, errW_none, errW_some] <;> rfl), by repeat (first | (with_reducible first | exact HB.out | apply below_alloc | apply pw_below_drewN | apply below_drew1) | exact HB.out)⟩
            · rw [if_neg c28] at H
              have c28b0 : ((t205.length : Int) == 1) = false := beq_eq_false_iff_ne.mpr c28
              have c28b1 : ((t205.length : Int) != 1) = true := bne_iff_ne.mpr c28
              obtain ⟨ji34, hji34⟩ : ∃ j_ : Int, (IntKind.u64.wrap (wrap64 ((wrap64 ((t205.length : Int) * 7)) - 7))) = j_ := ⟨_, rfl⟩
              replace H : (if 0 ≤ (ji34) then (some (decide ((shr .u64 (ji5) (ji34)) > 0))) else (none)) = some r := by first | (rw [hji34] at H; exact H) | (simp only [hji34] at H ⊢; exact H)
              (try rw [hji34] at A3)
              (try rw [hji34] at A6)
              (try rw [hji34] at A8)
              by_cases c35 : 0 ≤ (ji34)
              · rw [if_pos c35] at H
                have c35b0 := eq_true c35
                have c35b1 : decide (0 ≤ (ji34)) = true := decide_eq_true c35
                clear c35
                obtain ⟨ji36, hji36⟩ : ∃ j_ : Int, (shr .u64 (ji5) (ji34)) = j_ := ⟨_, rfl⟩
                replace H : (some (decide ((ji36) > 0))) = some r := by first | (rw [hji36] at H; exact H) | (simp only [hji36] at H ⊢; exact H)
                (try rw [hji36] at A3)
                (try rw [hji36] at A6)
                (try rw [hji36] at A8)
                have hji36_ : ((ji5) / 2 ^ min (ji34).toNat 64) = ji36 := hji36
                have hji36z : (ji34) ≤ 64 → ((ji5) / 2 ^ (ji34).toNat) = ji36 := shr_small hji36
                obtain rfl := Option.some.inj H
                go_enter Try.func4, Try.ntmps4
                go_wp2_with (first | ((with_reducible refine gate_callee (f := 10) rfl ?_); refine goesL_ (some 8) rfl rfl Try.func10 (by kernel_rfl) rfl #[] rfl (by (try simp only [List.map_toArray, List.map_cons, List.map_nil]); first | done | rfl | (simp only [List.length_drop, List.length_take]; rfl)) ?_; (with_reducible refine (conductorlaw01_live.calls k  true _ A3.out).mono ?_); rintro e w37 ⟨rfl, hb⟩; refine ⟨_, rfl, ?_⟩; have n0_ := Aside0.mk (below_step (by repeat (first | (with_reducible first | exact HB.out | apply below_alloc | apply pw_below_drewN | apply below_drew1) | exact HB.out)) hb); clear HB; have HB := n0_; clear n0_; (try clear hb); (try clear hb2); (try clear hk); (try clear hi)) | ((with_reducible refine gate_callee (f := 16) rfl ?_); refine goesL_ (some 13) rfl rfl Try.func16 (by kernel_rfl) rfl #[.int .u64 ji5] rfl (by (try simp only [List.map_toArray, List.map_cons, List.map_nil]); first | done | (simp only [hji5]; rfl) | rfl | (simp only [List.length_drop, List.length_take]; rfl)) ?_; (with_reducible refine (pack_Uint.calls k ji5 t205 _ A6.out).mono ?_); rintro e w38 ⟨v206, rfl, ho0, hb⟩; refine ⟨_, rfl, ?_⟩; have n0_ := Aside0.mk (Kd.R_lower ho0 (below_size (by repeat (first | (with_reducible first | exact HB.out | apply below_alloc | apply pw_below_drewN | apply below_drew1) | exact HB.out)))); have n1_ := Aside0.mk (below_step (by repeat (first | (with_reducible first | exact HB.out | apply below_alloc | apply pw_below_drewN | apply below_drew1) | exact HB.out)) hb); clear HB; have HO207 := n0_; have HB := n1_; clear n0_ n1_; (try clear hb); (try clear hb2); (try clear hk); (try clear hi); (try clear ho0)) | ((with_reducible refine gate_callee (f := 16) rfl ?_); refine goesL_ (some 17) rfl rfl Try.func16 (by kernel_rfl) rfl #[.int .u64 ji7] rfl (by (try simp only [List.map_toArray, List.map_cons, List.map_nil]); first | done | (simp only [hji7]; rfl) | rfl | (simp only [List.length_drop, List.length_take]; rfl)) ?_; (with_reducible refine (pack_Uint.calls k ji7 t208 _ A8.out).mono ?_); rintro e w39 ⟨v209, rfl, ho0, hb⟩; refine ⟨_, rfl, ?_⟩; have n0_ := Aside0.mk (Kd.R_elder' (by (with_reducible repeat (first | apply Kd.R_alloc | apply Kd.R_drewN | apply Kd.R_drew)); exact HO207.out) (Kd.R_base ho0) hb); have n1_ := Aside0.mk (Kd.R_lower (Kd.R_new' ho0 (Kd.R_lt (by (with_reducible repeat (first | apply Kd.R_alloc | apply Kd.R_drewN | apply Kd.R_drew)); exact HO207.out))) (below_size (by repeat (first | (with_reducible first | exact HB.out | apply below_alloc | apply pw_below_drewN | apply below_drew1) | exact HB.out)))); have n2_ := Aside0.mk (below_step (by repeat (first | (with_reducible first | exact HB.out | apply below_alloc | apply pw_below_drewN | apply below_drew1) | exact HB.out)) hb); clear HO207; clear HB; have HO207 := n0_; have HO210 := n1_; have HB := n2_; clear n0_ n1_ n2_; (try clear hb); (try clear hb2); (try clear hk); (try clear hi); (try clear ho0); obtain ⟨Ao40, co40, eo40⟩ := Kd.R_slice HO207.out; subst eo40; obtain ⟨Ao41, co41, eo41⟩ := Kd.R_slice HO210.out; subst eo41))
                go_ret
                exact ⟨by first | rfl | (simp [errW_none, errW_some] <;> rfl) | (simp only [← hji5, ← hji7, ← hji34, ← hji36]; first | rfl | (simp [errW_none, errW_some] <;> rfl)) | (simp [*, errW_none, errW_some] <;> rfl), by repeat (first | (with_reducible first | exact HB.out | apply below_alloc | apply pw_below_drewN | apply below_drew1) | exact HB.out)⟩
              · rw [if_neg c35] at H
                exact absurd H (by simp)
          · rw [if_neg c27] at H
            have c27b0 : decide (64 ≤ (wrap64 ((t205.length : Int) * 7))) = false := decide_eq_false c27
            clear c27
            obtain ⟨ji42, hji42⟩ : ∃ j_ : Int, (IntKind.u64.wrap (wrap64 ((t205.length : Int) * 7))) = j_ := ⟨_, rfl⟩
            replace H : (if 0 ≤ (ji42) then (if (shr .u64 (ji5) (ji42)) = 0 then (if (t205.length : Int) = 1 then (some true) else (if 0 ≤ (IntKind.u64.wrap (wrap64 ((wrap64 ((t205.length : Int) * 7)) - 7))) then (some (decide ((shr .u64 (ji5) (IntKind.u64.wrap (wrap64 ((wrap64 ((t205.length : Int) * 7)) - 7)))) > 0))) else (none))) else (some false)) else (none)) = some r := by first | (rw [hji42] at H; exact H) | (simp only [hji42] at H ⊢; exact H)
            (try rw [hji42] at A3)
            (try rw [hji42] at A6)
            (try rw [hji42] at A8)
            by_cases c43 : 0 ≤ (ji42)
            · rw [if_pos c43] at H
              have c43b0 := eq_true c43
              have c43b1 : decide (0 ≤ (ji42)) = true := decide_eq_true c43
              clear c43
              obtain ⟨ji44, hji44⟩ : ∃ j_ : Int, (shr .u64 (ji5) (ji42)) = j_ := ⟨_, rfl⟩
              replace H : (if (ji44) = 0 then (if (t205.length : Int) = 1 then (some true) else (if 0 ≤ (IntKind.u64.wrap (wrap64 ((wrap64 ((t205.length : Int) * 7)) - 7))) then (some (decide ((shr .u64 (ji5) (IntKind.u64.wrap (wrap64 ((wrap64 ((t205.length : Int) * 7)) - 7)))) > 0))) else (none))) else (some false)) = some r := by first | (rw [hji44] at H; exact H) | (simp only [hji44] at H ⊢; exact H)
              (try rw [hji44] at A3)
              (try rw [hji44] at A6)
              (try rw [hji44] at A8)
              have hji44_ : ((ji5) / 2 ^ min (ji42).toNat 64) = ji44 := hji44
              have hji44z : (ji42) ≤ 64 → ((ji5) / 2 ^ (ji42).toNat) = ji44 := shr_small hji44
              by_cases c45 : (ji44) = 0
              · rw [if_pos c45] at H
                have c45b0 : ((ji44) == 0) = true := beq_iff_eq.mpr c45
                have c45b1 : ((ji44) != 0) = false := bne_eq_false_iff_eq.mpr c45
                clear c45
                by_cases c46 : (t205.length : Int) = 1
                · rw [if_pos c46] at H
                  have c46b0 : ((t205.length : Int) == 1) = true := beq_iff_eq.mpr c46
                  have c46b1 : ((t205.length : Int) != 1) = false := bne_eq_false_iff_eq.mpr c46
                  clear c46
                  obtain rfl := Option.some.inj H
                  go_enter Try.func4, Try.ntmps4
                  go_wp2_with (first | ((with_reducible refine gate_callee (f := 10) rfl ?_); refine goesL_ (some 8) rfl rfl Try.func10 (by kernel_rfl) rfl #[] rfl (by (try simp only [List.map_toArray, List.map_cons, List.map_nil]); first | done | rfl | (simp only [List.length_drop, List.length_take]; rfl)) ?_; (with_reducible refine (conductorlaw01_live.calls k  true _ A3.out).mono ?_); rintro e w47 ⟨rfl, hb⟩; refine ⟨_, rfl, ?_⟩; have n0_ := Aside0.mk (below_step (by repeat (first | (with_reducible first | exact HB.out | apply below_alloc | apply pw_below_drewN | apply below_drew1) | exact HB.out)) hb); clear HB; have HB := n0_; clear n0_; (try clear hb); (try clear hb2); (try clear hk); (try clear hi)) | ((with_reducible refine gate_callee (f := 16) rfl ?_); refine goesL_ (some 13) rfl rfl Try.func16 (by kernel_rfl) rfl #[.int .u64 ji5] rfl (by (try simp only [List.map_toArray, List.map_cons, List.map_nil]); first | done | (simp only [hji5]; rfl) | rfl | (simp only [List.length_drop, List.length_take]; rfl)) ?_; (with_reducible refine (pack_Uint.calls k ji5 t205 _ A6.out).mono ?_); rintro e w48 ⟨v206, rfl, ho0, hb⟩; refine ⟨_, rfl, ?_⟩; have n0_ := Aside0.mk (Kd.R_lower ho0 (below_size (by repeat (first | (with_reducible first | exact HB.out | apply below_alloc | apply pw_below_drewN | apply below_drew1) | exact HB.out)))); have n1_ := Aside0.mk (below_step (by repeat (first | (with_reducible first | exact HB.out | apply below_alloc | apply pw_below_drewN | apply below_drew1) | exact HB.out)) hb); clear HB; have HO207 := n0_; have HB := n1_; clear n0_ n1_; (try clear hb); (try clear hb2); (try clear hk); (try clear hi); (try clear ho0)) | ((with_reducible refine gate_callee (f := 16) rfl ?_); refine goesL_ (some 17) rfl rfl Try.func16 (by kernel_rfl) rfl #[.int .u64 ji7] rfl (by (try simp only [List.map_toArray, List.map_cons, List.map_nil]); first | done | (simp only [hji7]; rfl) | rfl | (simp only [List.length_drop, List.length_take]; rfl)) ?_; (with_reducible refine (pack_Uint.calls k ji7 t208 _ A8.out).mono ?_); rintro e w49 ⟨v209, rfl, ho0, hb⟩; refine ⟨_, rfl, ?_⟩; have n0_ := Aside0.mk (Kd.R_elder' (by (with_reducible repeat (first | apply Kd.R_alloc | apply Kd.R_drewN | apply Kd.R_drew)); exact HO207.out) (Kd.R_base ho0) hb); have n1_ := Aside0.mk (Kd.R_lower (Kd.R_new' ho0 (Kd.R_lt (by (with_reducible repeat (first | apply Kd.R_alloc | apply Kd.R_drewN | apply Kd.R_drew)); exact HO207.out))) (below_size (by repeat (first | (with_reducible first | exact HB.out | apply below_alloc | apply pw_below_drewN | apply below_drew1) | exact HB.out)))); have n2_ := Aside0.mk (below_step (by repeat (first | (with_reducible first | exact HB.out | apply below_alloc | apply pw_below_drewN | apply below_drew1) | exact HB.out)) hb); clear HO207; clear HB; have HO207 := n0_; have HO210 := n1_; have HB := n2_; clear n0_ n1_ n2_; (try clear hb); (try clear hb2); (try clear hk); (try clear hi); (try clear ho0); obtain ⟨Ao50, co50, eo50⟩ := Kd.R_slice HO207.out; subst eo50; obtain ⟨Ao51, co51, eo51⟩ := Kd.R_slice HO210.out; subst eo51))
                  go_ret
                  exact ⟨by first | rfl | (simp [errW_none, errW_some] <;> rfl) | (simp only [← hji5, ← hji7, ← hji42, ← hji44]; first | rfl | (simp [errW_none, errW_some] <;> rfl)) | (simp [*, errW_none, errW_some] <;> rfl), by repeat (first | (with_reducible first | exact HB.out | apply below_alloc | apply pw_below_drewN | apply below_drew1) | exact HB.out)⟩
                · rw [if_neg c46] at H
                  have c46b0 : ((t205.length : Int) == 1) = false := beq_eq_false_iff_ne.mpr c46
                  have c46b1 : ((t205.length : Int) != 1) = true := bne_iff_ne.mpr c46
                  obtain ⟨ji52, hji52⟩ : ∃ j_ : Int, (IntKind.u64.wrap (wrap64 ((wrap64 ((t205.length : Int) * 7)) - 7))) = j_ := ⟨_, rfl⟩
                  replace H : (if 0 ≤ (ji52) then (some (decide ((shr .u64 (ji5) (ji52)) > 0))) else (none)) = some r := by first | (rw [hji52] at H; exact H) | (simp only [hji52] at H ⊢; exact H)
                  (try rw [hji52] at A3)
                  (try rw [hji52] at A6)
                  (try rw [hji52] at A8)
                  by_cases c53 : 0 ≤ (ji52)
                  · rw [if_pos c53] at H
                    have c53b0 := eq_true c53
                    have c53b1 : decide (0 ≤ (ji52)) = true := decide_eq_true c53
                    clear c53
                    obtain ⟨ji54, hji54⟩ : ∃ j_ : Int, (shr .u64 (ji5) (ji52)) = j_ := ⟨_, rfl⟩
                    replace H : (some (decide ((ji54) > 0))) = some r := by first | (rw [hji54] at H; exact H) | (simp only [hji54] at H ⊢; exact H)
                    (try rw [hji54] at A3)
                    (try rw [hji54] at A6)
                    (try rw [hji54] at A8)
                    have hji54_ : ((ji5) / 2 ^ min (ji52).toNat 64) = ji54 := hji54
                    have hji54z : (ji52) ≤ 64 → ((ji5) / 2 ^ (ji52).toNat) = ji54 := shr_small hji54
                    obtain rfl := Option.some.inj H
                    go_enter Try.func4, Try.ntmps4
                    go_wp2_with (first | ((with_reducible refine gate_callee (f := 10) rfl ?_); refine goesL_ (some 8) rfl rfl Try.func10 (by kernel_rfl) rfl #[] rfl (by (try simp only [List.map_toArray, List.map_cons, List.map_nil]); first | done | rfl | (simp only [List.length_drop, List.length_take]; rfl)) ?_; (with_reducible refine (conductorlaw01_live.calls k  true _ A3.out).mono ?_); rintro e w55 ⟨rfl, hb⟩; refine ⟨_, rfl, ?_⟩; have n0_ := Aside0.mk (below_step (by repeat (first | (with_reducible first | exact HB.out | apply below_alloc | apply pw_below_drewN | apply below_drew1) | exact HB.out)) hb); clear HB; have HB := n0_; clear n0_; (try clear hb); (try clear hb2); (try clear hk); (try clear hi)) | ((with_reducible refine gate_callee (f := 16) rfl ?_); refine goesL_ (some 13) rfl rfl Try.func16 (by kernel_rfl) rfl #[.int .u64 ji5] rfl (by (try simp only [List.map_toArray, List.map_cons, List.map_nil]); first | done | (simp only [hji5]; rfl) | rfl | (simp only [List.length_drop, List.length_take]; rfl)) ?_; (with_reducible refine (pack_Uint.calls k ji5 t205 _ A6.out).mono ?_); rintro e w56 ⟨v206, rfl, ho0, hb⟩; refine ⟨_, rfl, ?_⟩; have n0_ := Aside0.mk (Kd.R_lower ho0 (below_size (by repeat (first | (with_reducible first | exact HB.out | apply below_alloc | apply pw_below_drewN | apply below_drew1) | exact HB.out)))); have n1_ := Aside0.mk (below_step (by repeat (first | (with_reducible first | exact HB.out | apply below_alloc | apply pw_below_drewN | apply below_drew1) | exact HB.out)) hb); clear HB; have HO207 := n0_; have HB := n1_; clear n0_ n1_; (try clear hb); (try clear hb2); (try clear hk); (try clear hi); (try clear ho0)) | ((with_reducible refine gate_callee (f := 16) rfl ?_); refine goesL_ (some 17) rfl rfl Try.func16 (by kernel_rfl) rfl #[.int .u64 ji7] rfl (by (try simp only [List.map_toArray, List.map_cons, List.map_nil]); first | done | (simp only [hji7]; rfl) | rfl | (simp only [List.length_drop, List.length_take]; rfl)) ?_; (with_reducible refine (pack_Uint.calls k ji7 t208 _ A8.out).mono ?_); rintro e w57 ⟨v209, rfl, ho0, hb⟩; refine ⟨_, rfl, ?_⟩; have n0_ := Aside0.mk (Kd.R_elder' (by (with_reducible repeat (first | apply Kd.R_alloc | apply Kd.R_drewN | apply Kd.R_drew)); exact HO207.out) (Kd.R_base ho0) hb); have n1_ := Aside0.mk (Kd.R_lower (Kd.R_new' ho0 (Kd.R_lt (by (with_reducible repeat (first | apply Kd.R_alloc | apply Kd.R_drewN | apply Kd.R_drew)); exact HO207.out))) (below_size (by repeat (first | (with_reducible first | exact HB.out | apply below_alloc | apply pw_below_drewN | apply below_drew1) | exact HB.out)))); have n2_ := Aside0.mk (below_step (by repeat (first | (with_reducible first | exact HB.out | apply below_alloc | apply pw_below_drewN | apply below_drew1) | exact HB.out)) hb); clear HO207; clear HB; have HO207 := n0_; have HO210 := n1_; have HB := n2_; clear n0_ n1_ n2_; (try clear hb); (try clear hb2); (try clear hk); (try clear hi); (try clear ho0); obtain ⟨Ao58, co58, eo58⟩ := Kd.R_slice HO207.out; subst eo58; obtain ⟨Ao59, co59, eo59⟩ := Kd.R_slice HO210.out; subst eo59))
                    go_ret
                    exact ⟨by first | rfl | (simp [errW_none, errW_some] <;> rfl) | (simp only [← hji5, ← hji7, ← hji42, ← hji44, ← hji52, ← hji54]; first | rfl | (simp [errW_none, errW_some] <;> rfl)) | (simp [*, errW_none, errW_some] <;> rfl), by repeat (first | (with_reducible first | exact HB.out | apply below_alloc | apply pw_below_drewN | apply below_drew1) | exact HB.out)⟩
                  · rw [if_neg c53] at H
                    exact absurd H (by simp)
              · rw [if_neg c45] at H
                have c45b0 : ((ji44) == 0) = false := beq_eq_false_iff_ne.mpr c45
                have c45b1 : ((ji44) != 0) = true := bne_iff_ne.mpr c45
                obtain rfl := Option.some.inj H
                go_enter Try.func4, Try.ntmps4
                go_wp2_with (first | ((with_reducible refine gate_callee (f := 10) rfl ?_); refine goesL_ (some 8) rfl rfl Try.func10 (by kernel_rfl) rfl #[] rfl (by (try simp only [List.map_toArray, List.map_cons, List.map_nil]); first | done | rfl | (simp only [List.length_drop, List.length_take]; rfl)) ?_; (with_reducible refine (conductorlaw01_live.calls k  true _ A3.out).mono ?_); rintro e w60 ⟨rfl, hb⟩; refine ⟨_, rfl, ?_⟩; have n0_ := Aside0.mk (below_step (by repeat (first | (with_reducible first | exact HB.out | apply below_alloc | apply pw_below_drewN | apply below_drew1) | exact HB.out)) hb); clear HB; have HB := n0_; clear n0_; (try clear hb); (try clear hb2); (try clear hk); (try clear hi)) | ((with_reducible refine gate_callee (f := 16) rfl ?_); refine goesL_ (some 13) rfl rfl Try.func16 (by kernel_rfl) rfl #[.int .u64 ji5] rfl (by (try simp only [List.map_toArray, List.map_cons, List.map_nil]); first | done | (simp only [hji5]; rfl) | rfl | (simp only [List.length_drop, List.length_take]; rfl)) ?_; (with_reducible refine (pack_Uint.calls k ji5 t205 _ A6.out).mono ?_); rintro e w61 ⟨v206, rfl, ho0, hb⟩; refine ⟨_, rfl, ?_⟩; have n0_ := Aside0.mk (Kd.R_lower ho0 (below_size (by repeat (first | (with_reducible first | exact HB.out | apply below_alloc | apply pw_below_drewN | apply below_drew1) | exact HB.out)))); have n1_ := Aside0.mk (below_step (by repeat (first | (with_reducible first | exact HB.out | apply below_alloc | apply pw_below_drewN | apply below_drew1) | exact HB.out)) hb); clear HB; have HO207 := n0_; have HB := n1_; clear n0_ n1_; (try clear hb); (try clear hb2); (try clear hk); (try clear hi); (try clear ho0)) | ((with_reducible refine gate_callee (f := 16) rfl ?_); refine goesL_ (some 17) rfl rfl Try.func16 (by kernel_rfl) rfl #[.int .u64 ji7] rfl (by (try simp only [List.map_toArray, List.map_cons, List.map_nil]); first | done | (simp only [hji7]; rfl) | rfl | (simp only [List.length_drop, List.length_take]; rfl)) ?_; (with_reducible refine (pack_Uint.calls k ji7 t208 _ A8.out).mono ?_); rintro e w62 ⟨v209, rfl, ho0, hb⟩; refine ⟨_, rfl, ?_⟩; have n0_ := Aside0.mk (Kd.R_elder' (by (with_reducible repeat (first | apply Kd.R_alloc | apply Kd.R_drewN | apply Kd.R_drew)); exact HO207.out) (Kd.R_base ho0) hb); have n1_ := Aside0.mk (Kd.R_lower (Kd.R_new' ho0 (Kd.R_lt (by (with_reducible repeat (first | apply Kd.R_alloc | apply Kd.R_drewN | apply Kd.R_drew)); exact HO207.out))) (below_size (by repeat (first | (with_reducible first | exact HB.out | apply below_alloc | apply pw_below_drewN | apply below_drew1) | exact HB.out)))); have n2_ := Aside0.mk (below_step (by repeat (first | (with_reducible first | exact HB.out | apply below_alloc | apply pw_below_drewN | apply below_drew1) | exact HB.out)) hb); clear HO207; clear HB; have HO207 := n0_; have HO210 := n1_; have HB := n2_; clear n0_ n1_ n2_; (try clear hb); (try clear hb2); (try clear hk); (try clear hi); (try clear ho0); obtain ⟨Ao63, co63, eo63⟩ := Kd.R_slice HO207.out; subst eo63; obtain ⟨Ao64, co64, eo64⟩ := Kd.R_slice HO210.out; subst eo64))
                go_ret
                exact ⟨by first | rfl | (simp [errW_none, errW_some] <;> rfl) | (simp only [← hji5, ← hji7, ← hji42, ← hji44]; first | rfl | (simp [errW_none, errW_some] <;> rfl)) | (simp [*, errW_none, errW_some] <;> rfl), by repeat (first | (with_reducible first | exact HB.out | apply below_alloc | apply pw_below_drewN | apply below_drew1) | exact HB.out)⟩
            · rw [if_neg c43] at H
              exact absurd H (by simp)
  · replace c4 := Bool.eq_false_iff.mpr c4
    subst c4
    have H1 : (some false) = some r := by rw [if_neg (show ¬ (false = true) by decide)] at H; exact H
    clear H
    have H := H1
    clear H1
    obtain rfl := Option.some.inj H
    go_enter Try.func4, Try.ntmps4
    go_wp2_with (first | ((with_reducible refine gate_callee (f := 10) rfl ?_); refine goesL_ (some 8) rfl rfl Try.func10 (by kernel_rfl) rfl #[] rfl (by (try simp only [List.map_toArray, List.map_cons, List.map_nil]); first | done | rfl | (simp only [List.length_drop, List.length_take]; rfl)) ?_; (with_reducible refine (conductorlaw01_live.calls k  false _ A3.out).mono ?_); rintro e w65 ⟨rfl, hb⟩; refine ⟨_, rfl, ?_⟩; have n0_ := Aside0.mk (below_step (by repeat (first | (with_reducible first | exact HB.out | apply below_alloc | apply pw_below_drewN | apply below_drew1) | exact HB.out)) hb); clear HB; have HB := n0_; clear n0_; (try clear hb); (try clear hb2); (try clear hk); (try clear hi)))
    go_ret
    exact ⟨by first | rfl | (simp [errW_none, errW_some] <;> rfl) | (simp [*, errW_none, errW_some] <;> rfl), by repeat (first | (with_reducible first | exact HB.out | apply below_alloc | apply pw_below_drewN | apply below_drew1) | exact HB.out)⟩

/-- THE ONE PURE STATEMENT of conductorlaw01_PackShort: yours. -/
def conductorlaw01_PackShort.Pure : Prop := ∀ (a0 : Int) (a1 : Int), (Lit.int .u64 a0).wf = true → (Lit.int .u64 a1).wf = true → ∃ k, conductorlaw01_PackShort.f k a0 a1 = some true
theorem conductorlaw01_PackShort.walk (P : conductorlaw01_PackShort.Pure) (a0 : Int) (a1 : Int) (w : World) (w0 : (Lit.int .u64 a0).wf = true) (w1 : (Lit.int .u64 a1).wf = true) :
    Calls Try.prog 4 #[.int .u64 a0, .int .u64 a1] w fun e w' => e = .returned (.bool true) ∧ Below w.heap.size w w' := by
  obtain ⟨k, h⟩ := P a0 a1 w0 w1
  refine (conductorlaw01_PackShort.calls k a0 a1 true w h).mono ?_
  rintro e w' ⟨rfl, hd⟩
  exact ⟨rfl, hd⟩

/-! ### pack_Reader_Int: function 22 -/
def pack_Reader_Int.f (k : Nat) (s0_0 : Bool) (s0_1 : List Int) (s0_2 : Int) (s0_3 : Int) : Option (Int × Bool × Int × Int) := (pack_Reader_Uint.f k s0_0 s0_1 s0_2 s0_3 18446744073709551615).bind fun bt211 => (some (Go.bits .xor .i64 (wrap64 (bt211.1 / 2)) (wrap64 (-(wrap64 (Go.bits .and .u64 bt211.1 1)))), bt211.2.1, bt211.2.2.1, bt211.2.2.2))
theorem pack_Reader_Int.mono : ∀ a0 a1 a2 a3 k, LeO (pack_Reader_Int.f k a0 a1 a2 a3) (pack_Reader_Int.f (k + 1) a0 a1 a2 a3) := by
  intro a0 a1 a2 a3 k
  unfold pack_Reader_Int.f
  repeat' first
      | (with_reducible exact pack_Reader_Uint.mono _ _ _ _ _ _)
      | (with_reducible exact LeO.refl _)
      | (with_reducible exact LeO.none _)
      | (with_reducible refine LeO.ite ?_ ?_)
      | (with_reducible refine LeO.bind ?_ (fun _ => ?_))
      | exact pack_Reader_Uint.mono _ _ _ _ _ _
      | exact LeO.none _
      | refine LeO.ite ?_ ?_
      | refine LeO.bind ?_ (fun _ => ?_)
set_option maxHeartbeats 8000000 in
set_option maxRecDepth 100000 in
theorem pack_Reader_Int.calls (k : Nat) (g : Nat) (s0_0 : Bool) (s0_1 : List Int) (s0_2 : Int) (s0_3 : Int) (r1 : Int) (r2 : Bool) (r3 : Int) (r4 : Int) (w0 w : World) (hI : IsS60 w0 w g s0_0 s0_1 s0_2 s0_3) (hB : Below w0.heap.size w0 w) (h : pack_Reader_Int.f k s0_0 s0_1 s0_2 s0_3 = some (r1, r2, r3, r4)) :
    Calls Try.prog 22 #[.pointer (some ⟨g, 0, none⟩)] w fun e w' => e = .returned (.int .i64 r1) ∧ IsS60 w0 w' g r2 s0_1 r3 r4 ∧ Below w0.heap.size w0 w' ∧ KeepBut w w' g none := by
  have HI0 := Aside0.mk hI
  have HK := Aside0.mk (KeepBut.refl w g none)
  have HL := Aside0.mk hB.size
  clear hI
  have HW0 := Aside0.mk hB.size
  have HB := Aside0.mk hB
  clear hB
  have H : ((pack_Reader_Uint.f k s0_0 s0_1 s0_2 s0_3 18446744073709551615).bind fun bt211 => (some (Go.bits .xor .i64 (wrap64 (bt211.1 / 2)) (wrap64 (-(wrap64 (Go.bits .and .u64 bt211.1 1)))), bt211.2.1, bt211.2.2.1, bt211.2.2.2))) = some (r1, r2, r3, r4) := h
  clear h
  replace H := Option.bind_eq_some_iff.mp H
  obtain ⟨⟨t211, t212, t213, t214⟩, A20, H⟩ := H
  replace H : (some (Go.bits .xor .i64 (wrap64 (t211 / 2)) (wrap64 (-(wrap64 (Go.bits .and .u64 t211 1)))), t212, t213, t214)) = some (r1, r2, r3, r4) := H
  have A2 := Aside0.mk A20
  clear A20
  simp only [Option.some.injEq, Prod.mk.injEq] at H
  obtain ⟨rfl, rfl, rfl, rfl⟩ := H
  go_enter Try.func22, Try.ntmps22
  go_wp2_with (first | ((with_reducible refine gate_callee (f := 21) rfl ?_); refine goesL_ (some 5) rfl rfl Try.func21 (by kernel_rfl) rfl #[.pointer (some ⟨g, 0, none⟩), .int .u64 18446744073709551615] rfl (by (try simp only [List.map_toArray, List.map_cons, List.map_nil]); first | done | rfl | (simp only [List.length_drop, List.length_take]; rfl)) ?_; (with_reducible refine (pack_Reader_Uint.calls k g s0_0 s0_1 s0_2 s0_3 18446744073709551615 t211 t212 t213 t214 w0 _ ?side1 ?side2 A2.out).mono ?_); (case side1 => repeat (first | (with_reducible first | exact HI0.out | apply IsS60.alloc | apply IsS60.drewN | apply IsS60.drew | apply IsS60.set_0 | apply IsS60.set_2 | apply IsS60.set_3) | exact HI0.out)); (case side2 => repeat (first | (with_reducible first | exact HB.out | apply below_alloc | apply pw_below_drewN | apply below_drew1 | refine below_set ?_ (IsS60.ge HI0.out)) | exact HB.out)); rintro e w3 ⟨rfl, hi, hb, hk⟩; refine ⟨_, rfl, ?_⟩; have n0_ := Aside0.mk (KeepBut.trans (by repeat (first | (with_reducible first | exact HK.out | apply KeepBut.set_ | apply keep_drewN | apply keep_drew | apply keep_alloc) | exact HK.out)) hk (.inl rfl)); have n1_ := Aside0.mk (hb); have n2_ := Aside0.mk (hi); clear HK; clear HB; clear HI0; have HK := n0_; have HB := n1_; have HI0 := n2_; clear n0_ n1_ n2_; (try clear hb); (try clear hb2); (try clear hk); (try clear hi)))
  go_ret
  exact ⟨by first | rfl | (simp [errW_none, errW_some] <;> rfl) | (simp [*, errW_none, errW_some] <;> rfl), by repeat (first | (with_reducible first | exact HI0.out | apply IsS60.alloc | apply IsS60.drewN | apply IsS60.drew | apply IsS60.set_0 | apply IsS60.set_2 | apply IsS60.set_3) | exact HI0.out), by repeat (first | (with_reducible first | exact HB.out | apply below_alloc | apply pw_below_drewN | apply below_drew1 | refine below_set ?_ (IsS60.ge HI0.out)) | exact HB.out), by repeat (first | (with_reducible first | exact HK.out | apply KeepBut.set_ | apply keep_drewN | apply keep_drew | apply keep_alloc) | exact HK.out)⟩

theorem pack_Reader_Int.callsT (k : Nat) (g : Nat) (s0_0 : Bool) (s0_1 : List Int) (s0_2 : Int) (s0_3 : Int) (r1 : Int) (r2 : Bool) (r3 : Int) (r4 : Int) (w0 w : World) (hI : IsT60 w0 w g s0_0 s0_1 s0_2 s0_3) (hB : Below w0.heap.size w0 w) (h : pack_Reader_Int.f k s0_0 s0_1 s0_2 s0_3 = some (r1, r2, r3, r4)) :
    Calls Try.prog 22 #[.pointer (some ⟨g, 0, none⟩)] w fun e w' => e = .returned (.int .i64 r1) ∧ IsT60 w0 w' g r2 s0_1 r3 r4 ∧ Below w0.heap.size w0 w' ∧ KeepBut w w' g none := by
  have hgs := Nat.le_of_lt hI.lt
  have htb : Below (Go.Proofs.Ytdlmkdgcdbkeaaa.T.trunc g w).heap.size (Go.Proofs.Ytdlmkdgcdbkeaaa.T.trunc g w) w := by rw [Go.Proofs.Ytdlmkdgcdbkeaaa.T.trunc_size hgs]; exact Go.Proofs.Ytdlmkdgcdbkeaaa.T.trunc_below hgs
  refine (pack_Reader_Int.calls k g s0_0 s0_1 s0_2 s0_3 r1 r2 r3 r4 (Go.Proofs.Ytdlmkdgcdbkeaaa.T.trunc g w) w hI.S htb h).mono ?_
  rintro e w' ⟨p0_, hi, hb, hk⟩
  have hb2 : Below g (Go.Proofs.Ytdlmkdgcdbkeaaa.T.trunc g w) w' := by rw [Go.Proofs.Ytdlmkdgcdbkeaaa.T.trunc_size hgs] at hb; exact hb
  exact ⟨p0_, IsT60.back hI.ge hgs hi hb2, ⟨hb.os.trans hB.os, hb.tape.trans hB.tape, hb.output.trans hB.output, Nat.le_trans hB.size hk.1, fun k_ hk_ => (hk.2 k_ (Nat.lt_of_lt_of_le hk_ hB.size) (Nat.ne_of_lt (Nat.lt_of_lt_of_le hk_ hI.ge)) (by simp)).trans (hB.block k_ hk_)⟩, hk⟩

end Go.Proofs.Ytdlmkdgcdbkeaaa.Z
