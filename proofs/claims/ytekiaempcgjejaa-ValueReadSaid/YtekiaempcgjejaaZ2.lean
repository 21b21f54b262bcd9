/- Each Go function that the statements reach, as a plain Lean function, and a proof that the call comes to what it says. -/
import Derived.Test.YtekiaempcgjejaaZ0
namespace Go.Proofs.Ytekiaempcgjejaa.Z
open Go.RowKit Go.Proofs.YtekiaempcgjejaaW.PrintWords Go.Proofs.YtekiaempcgjejaaW.PrintLast Go.Proofs.YtekiaempcgjejaaW.PrintMore
attribute [local go_sem] max2_int min2_int max_two min_two max_three min_three max_four min_four   -- for this text's walks alone
attribute [local go_sem] Go.Proofs.Ytekiaempcgjejaa.Str.gtr_str Go.Proofs.Ytekiaempcgjejaa.Str.leq_str Go.Proofs.Ytekiaempcgjejaa.Str.geq_str
set_option linter.unusedVariables false
set_option linter.unusedSimpArgs false

/-! ### value_Int: function 11 -/
def value_Int.f (a0 : Int) : Option (Int × Int × ByteArray) := some (1, a0, (⟨#[]⟩ : ByteArray))
set_option maxHeartbeats 8000000 in
set_option maxRecDepth 100000 in
theorem value_Int.calls (a0 : Int) (r1 : Int) (r2 : Int) (r3 : ByteArray) (w : World) (h : value_Int.f a0 = some (r1, r2, r3)) :
    Calls Try.prog 11 #[.int .i64 a0] w fun e w' => e = .returned (.agg #[.int .i64 r1, .int .i64 r2, .string r3]) ∧ Below w.heap.size w w' := by
  have hu24 := Try.underlying24
  have HB := Aside0.mk (Below.refl w.heap.size w)
  have H : (some (1, a0, (⟨#[]⟩ : ByteArray))) = some (r1, r2, r3) := h
  clear h
  simp only [Option.some.injEq, Prod.mk.injEq] at H
  obtain ⟨rfl, rfl, rfl⟩ := H
  go_enter Try.func11, Try.ntmps11
  go_wp2_with (first | ((with_reducible refine gate_dst (N := 2) rfl ?_); refine box_event ?hg (N := 2) ?hd (cs := #[.int .i64 0, .int .i64 0, .string (⟨#[]⟩ : ByteArray)]) (t := 24) ?hr ?_; (case hd => rfl); (case hg => rfl); (case hr => first | (go_simp; done) | (go_simp; rfl)); intro gb101 hg w2 hbox hb; have n0_ := Aside0.mk (below_step (by repeat (first | (with_reducible first | exact HB.out | apply below_alloc | apply pw_below_drewN | apply below_drew1) | exact HB.out)) hb); have n1_ := Aside0.mk (hbox); have n2_ := Aside0.mk ((by rw [hg]; exact (below_size (by repeat (first | (with_reducible first | exact HB.out | apply below_alloc | apply pw_below_drewN | apply below_drew1) | exact HB.out))) : w.heap.size ≤ gb101)); have n3_ := Aside0.mk ((by rw [hg]; exact (below_size (by repeat (first | (with_reducible first | exact HB.out | apply below_alloc | apply pw_below_drewN | apply below_drew1) | exact HB.out))) : w.heap.size ≤ gb101)); clear HB; have HB := n0_; have BK101 := n1_; have GW101 := n2_; have GE101 := n3_; clear n0_ n1_ n2_ n3_; clear hb hbox hg; have hcz3_0 : w2.cell? ⟨gb101, 0, none⟩ = some (.int .i64 0) := (blk_cell BK101.out 0).trans rfl; have hcz3_1 : w2.cell? ⟨gb101, 1, none⟩ = some (.int .i64 0) := (blk_cell BK101.out 1).trans rfl; have hcz3_2 : w2.cell? ⟨gb101, 2, none⟩ = some (.string (⟨#[]⟩ : ByteArray)) := (blk_cell BK101.out 2).trans rfl; have hfz3_0 := blk_frozen BK101.out 0; have hfz3_1 := blk_frozen BK101.out 1; have hfz3_2 := blk_frozen BK101.out 2))
  refine bodyPost_ret (results_cell_row rfl _ _ gb101 24 #[.int .i64 1, .int .i64 a0, .string (⟨#[]⟩ : ByteArray)] (0, 0) _ rfl (by (with_reducible repeat (first | refine blk_drewN ?_ _ | refine blk_drew ?_ | refine blk_alloc ?_ _)); refine blk_put (cs := #[.int .i64 1, .int .i64 a0, .string (⟨#[]⟩ : ByteArray)]) ?_ 2 _ rfl; (with_reducible repeat (first | refine blk_drewN ?_ _ | refine blk_drew ?_ | refine blk_alloc ?_ _)); refine blk_put (cs := #[.int .i64 1, .int .i64 0, .string (⟨#[]⟩ : ByteArray)]) ?_ 1 _ rfl; (with_reducible repeat (first | refine blk_drewN ?_ _ | refine blk_drew ?_ | refine blk_alloc ?_ _)); refine blk_put (cs := #[.int .i64 0, .int .i64 0, .string (⟨#[]⟩ : ByteArray)]) ?_ 0 _ rfl; (with_reducible repeat (first | refine blk_drewN ?_ _ | refine blk_drew ?_ | refine blk_alloc ?_ _)); exact BK101.out) Try.underlying24 rfl (by kernel_rfl)) rfl ?_
  exact ⟨by first | rfl | (simp [errW_none, errW_some] <;> rfl) | (simp [*, errW_none, errW_some] <;> rfl), by repeat (first | (with_reducible first | exact HB.out | apply below_alloc | apply pw_below_drewN | apply below_drew1 | refine below_set ?_ GE101.out) | exact HB.out)⟩

/-! ### value_Bool: function 12 -/
def value_Bool.f (a0 : Bool) : Option (Int × Int × ByteArray) := some (2, if a0 = true then 1 else 0, (⟨#[]⟩ : ByteArray))
set_option maxRecDepth 100000 in
theorem value_Bool.calls (a0 : Bool) (r1 : Int) (r2 : Int) (r3 : ByteArray) (w : World) (h : value_Bool.f a0 = some (r1, r2, r3)) :
    Calls Try.prog 12 #[.bool a0] w fun e w' => e = .returned (.agg #[.int .i64 r1, .int .i64 r2, .string r3]) ∧ Below w.heap.size w w' := by
  simp only [value_Bool.f, Option.some.injEq, Prod.mk.injEq] at h
  obtain ⟨rfl, rfl, rfl⟩ := h
  have hu := Try.underlying24
  cases a0
  · go_enter Try.func12, Try.ntmps12
    go_wp2
    exact bodyPost_ret (v := .agg #[.int .i64 2, .int .i64 0, .string ⟨#[]⟩]) (by simp [results, Try.results12, go_sem]) rfl ⟨rfl, ((Below.refl _ _).alloc (Nat.le_refl _) _).alloc (by simp) _⟩
  · go_enter Try.func12, Try.ntmps12
    go_wp2
    exact bodyPost_ret (v := .agg #[.int .i64 2, .int .i64 1, .string ⟨#[]⟩]) (by simp [results, Try.results12, go_sem]) rfl ⟨rfl, ((Below.refl _ _).alloc (Nat.le_refl _) _).alloc (by simp) _⟩

/-! ### value_Text: function 13 -/
def value_Text.f (a0 : ByteArray) : Option (Int × Int × ByteArray) := some (3, 0, a0)
set_option maxHeartbeats 8000000 in
set_option maxRecDepth 100000 in
theorem value_Text.calls (a0 : ByteArray) (r1 : Int) (r2 : Int) (r3 : ByteArray) (w : World) (h : value_Text.f a0 = some (r1, r2, r3)) :
    Calls Try.prog 13 #[.string a0] w fun e w' => e = .returned (.agg #[.int .i64 r1, .int .i64 r2, .string r3]) ∧ Below w.heap.size w w' := by
  have hu24 := Try.underlying24
  have HB := Aside0.mk (Below.refl w.heap.size w)
  have H : (some (3, 0, a0)) = some (r1, r2, r3) := h
  clear h
  simp only [Option.some.injEq, Prod.mk.injEq] at H
  obtain ⟨rfl, rfl, rfl⟩ := H
  go_enter Try.func13, Try.ntmps13
  go_wp2_with (first | ((with_reducible refine gate_dst (N := 2) rfl ?_); refine box_event ?hg (N := 2) ?hd (cs := #[.int .i64 0, .int .i64 0, .string (⟨#[]⟩ : ByteArray)]) (t := 24) ?hr ?_; (case hd => rfl); (case hg => rfl); (case hr => first | (go_simp; done) | (go_simp; rfl)); intro gb102 hg w2 hbox hb; have n0_ := Aside0.mk (below_step (by repeat (first | (with_reducible first | exact HB.out | apply below_alloc | apply pw_below_drewN | apply below_drew1) | exact HB.out)) hb); have n1_ := Aside0.mk (hbox); have n2_ := Aside0.mk ((by rw [hg]; exact (below_size (by repeat (first | (with_reducible first | exact HB.out | apply below_alloc | apply pw_below_drewN | apply below_drew1) | exact HB.out))) : w.heap.size ≤ gb102)); have n3_ := Aside0.mk ((by rw [hg]; exact (below_size (by repeat (first | (with_reducible first | exact HB.out | apply below_alloc | apply pw_below_drewN | apply below_drew1) | exact HB.out))) : w.heap.size ≤ gb102)); clear HB; have HB := n0_; have BK102 := n1_; have GW102 := n2_; have GE102 := n3_; clear n0_ n1_ n2_ n3_; clear hb hbox hg; have hcz3_0 : w2.cell? ⟨gb102, 0, none⟩ = some (.int .i64 0) := (blk_cell BK102.out 0).trans rfl; have hcz3_1 : w2.cell? ⟨gb102, 1, none⟩ = some (.int .i64 0) := (blk_cell BK102.out 1).trans rfl; have hcz3_2 : w2.cell? ⟨gb102, 2, none⟩ = some (.string (⟨#[]⟩ : ByteArray)) := (blk_cell BK102.out 2).trans rfl; have hfz3_0 := blk_frozen BK102.out 0; have hfz3_1 := blk_frozen BK102.out 1; have hfz3_2 := blk_frozen BK102.out 2))
  refine bodyPost_ret (results_cell_row rfl _ _ gb102 24 #[.int .i64 3, .int .i64 0, .string a0] (0, 0) _ rfl (by (with_reducible repeat (first | refine blk_drewN ?_ _ | refine blk_drew ?_ | refine blk_alloc ?_ _)); refine blk_put (cs := #[.int .i64 3, .int .i64 0, .string (⟨#[]⟩ : ByteArray)]) ?_ 2 _ rfl; (with_reducible repeat (first | refine blk_drewN ?_ _ | refine blk_drew ?_ | refine blk_alloc ?_ _)); refine blk_put (cs := #[.int .i64 3, .int .i64 0, .string (⟨#[]⟩ : ByteArray)]) ?_ 1 _ rfl; (with_reducible repeat (first | refine blk_drewN ?_ _ | refine blk_drew ?_ | refine blk_alloc ?_ _)); refine blk_put (cs := #[.int .i64 0, .int .i64 0, .string (⟨#[]⟩ : ByteArray)]) ?_ 0 _ rfl; (with_reducible repeat (first | refine blk_drewN ?_ _ | refine blk_drew ?_ | refine blk_alloc ?_ _)); exact BK102.out) Try.underlying24 rfl (by kernel_rfl)) rfl ?_
  exact ⟨by first | rfl | (simp [errW_none, errW_some] <;> rfl) | (simp [*, errW_none, errW_some] <;> rfl), by repeat (first | (with_reducible first | exact HB.out | apply below_alloc | apply pw_below_drewN | apply below_drew1 | refine below_set ?_ GE102.out) | exact HB.out)⟩

/-! ### value_number: function 30 -/
/-- Decimal digits, the highest first; k at most. -/
def value_number.dec : Nat → Int → List Int
  | 0, _ => []
  | k + 1, u => if u < 10 then [48 + u] else value_number.dec k (u / 10) ++ [48 + u % 10]
/-- What is still ahead of the digits that lie there. -/
def value_number.ahead (k : Nat) (u : Int) : List Int := if u = 0 then [] else value_number.dec k u
theorem value_number.dec_step {k : Nat} {u : Int} (h0 : 0 ≤ u) : value_number.dec (k + 1) u = value_number.ahead k (u / 10) ++ [48 + u % 10] := by
  unfold value_number.ahead
  rw [value_number.dec]
  by_cases h : u < 10
  · rw [if_pos h, if_pos (by omega), show u % 10 = u by omega]; rfl
  · rw [if_neg h, if_neg (by omega)]
def value_number.cells (done : List Int) : Array Value := ((List.replicate (20 - done.length) (0 : Int) ++ done).map (Value.int .u8)).toArray
theorem value_number.cells_size (done : List Int) (h : done.length ≤ 20) : (value_number.cells done).size = 20 := by
  simp [value_number.cells]; omega
theorem value_number.cells_get (done : List Int) (j : Nat) (h : j + done.length < 20) : (value_number.cells done)[j]? = some (.int .u8 0) := by
  simp only [value_number.cells, List.getElem?_toArray, List.getElem?_map]
  rw [List.getElem?_append_left (by simp; omega), List.getElem?_replicate, if_pos (by omega)]; rfl
theorem value_number.cells_at (done : List Int) (hd : done.length ≤ 20) (j : Nat) (h : j < done.length) : (value_number.cells done)[20 - done.length + j]? = some (.int .u8 (done.getD j 0)) := by
  simp only [value_number.cells, List.getElem?_toArray, List.getElem?_map]
  rw [List.getElem?_append_right (by simp), List.length_replicate, show 20 - done.length + j - (20 - done.length) = j by omega, List.getElem?_eq_getElem h, List.getD_eq_getElem?_getD, List.getElem?_eq_getElem h]; rfl
theorem value_number.cells_set (done : List Int) (x : Int) (h : done.length < 20) : (value_number.cells done).setIfInBounds (20 - done.length - 1) (.int .u8 x) = value_number.cells (x :: done) := by
  have e : List.replicate (20 - done.length) (0 : Int) = List.replicate (20 - done.length - 1) 0 ++ [0] := by
    rw [← List.replicate_succ']; congr 1; omega
  simp only [value_number.cells, List.setIfInBounds_toArray, List.length_cons]
  rw [e, List.append_assoc, List.map_append, List.map_append, show 20 - (done.length + 1) = 20 - done.length - 1 by omega, List.set_append_right _ _ (by simp)]
  simp
/-- A number in digits. -/
def value_number.list (n : Int) : List Int := if n < 0 then 45 :: value_number.dec 20 (-n) else value_number.dec 20 n
theorem value_number.cut (g q : Nat) (hq : q < 20) (x : Int) (hx : x = (q : Int)) : ∀ W : World, (Instr.sliceAt 73 (.pointer (some ⟨g, 0, none⟩)) (some (.int .i64 x)) none none).run Try.prog W = .ok (.slice (some ⟨g, q, none⟩) (20 - q) (20 - q)) W := by
  intro W
  have hl : Try.prog.arrayLen 73 = 20 := by kernel_rfl
  have he : Try.prog.elem 73 = 5 := by kernel_rfl
  have hu : Try.prog.underlying 73 = some (.array (Try.prog.arrayLen 73) (Try.prog.elem 73)) := by kernel_rfl
  obtain ⟨i5, hi5, _, hs5, _⟩ := info_parts (show (Try.prog.info? 5).map (fun i => (i.zero, i.size, i.bytes)) = some (some (.int .u8 0), 1, 1) by kernel_rfl)
  subst hx
  rw [run_sliceAt_array_l W 73 ⟨g, 0, none⟩ hu .i64 (q : Int) (by omega) (by rw [hl]; omega), hl, he]
  simp [sizeOf, typeInfo, hi5, hs5, slicedAt, Result.andThen, Addr.add, show ¬ 20 = q by omega]
  omega
theorem value_number.conv (w : World) (done : List Int) (q : Nat) (hq : q + done.length = 20) : (convert 47 9 (.slice (some ⟨w.heap.size, q, none⟩) (20 - q) (20 - q))).run Try.prog (w.alloc (.cells (value_number.cells done) 73 (0, 0))) = .ok (.string (strOfNums done)) (w.alloc (.cells (value_number.cells done) 73 (0, 0))) := by
  refine run_convert_bytes_arg _ 47 5 Try.underlying47 Try.underlying5 _ q (20 - q) (20 - q) done (by omega) (fun i hi => ?_) 9 Try.underlying9
  rw [World.cell?_alloc_new]
  have := value_number.cells_at done (by omega) i (by omega)
  rw [show 20 - done.length + i = q + i by omega] at this
  exact this
theorem value_number.num (n : Int) (w : World) (h0 : -9223372036854775808 ≤ n) (h1 : n ≤ 9223372036854775807) : Calls Try.prog 30 #[.int .i64 n] w fun e w' => e = .returned (.string (strOfNums (value_number.list n))) ∧ Below w.heap.size w w' := by
  obtain ⟨U, hU⟩ : ∃ U : Int, U = (if n < 0 then -n else n) := ⟨_, rfl⟩
  have hU0 : 0 ≤ U := by rw [hU]; split <;> omega
  have hU1 : U ≤ 9223372036854775808 := by rw [hU]; split <;> omega
  have hLs : n < 0 → Hid (value_number.list n = 45 :: value_number.dec 20 U) := fun h => by show _ = _; unfold value_number.list; rw [if_pos h, hU, if_pos h]
  have hLp : ¬ n < 0 → Hid (value_number.list n = value_number.dec 20 U) := fun h => by show _ = _; unfold value_number.list; rw [if_neg h, hU, if_neg h]
  by_cases hn : n < 0
  all_goals
    first
      | (have hW1 : IntKind.u64.wrap (-IntKind.u64.wrap n) = U := by rw [hU, if_pos hn]; simp [IntKind.wrap, IntKind.bits, IntKind.signed]; omega)
      | (have hW2 : IntKind.u64.wrap n = U := by rw [hU, if_neg hn]; simp [IntKind.wrap, IntKind.bits, IntKind.signed]; omega)
    clear hU
    go_enter Try.func30, Try.ntmps30
    go_wp2
    go_loopw [4, 5] (fun p u wr => ∃ (q : Nat) (done : List Int) (x : Int), q + done.length = 20 ∧ 1 ≤ q ∧ 0 ≤ x ∧ x < 10 ^ (q - 1) ∧ p = .int .i64 (q : Int) ∧ u = .int .u64 x ∧ Hid (value_number.dec 20 U = (if q = 20 then value_number.dec 20 x else value_number.ahead q x ++ done)) ∧ wr = w.alloc (.cells (value_number.cells done) 73 (0, 0))) (fun p _ _ => (intOf p).toNat)
    case atStart => exact ⟨20, [], U, by simp, by omega, hU0, by simp; omega, rfl, rfl, rfl, rfl⟩
    case round =>
      obtain ⟨q, done, x, hq, hq1, hx0, hx1, rfl, rfl, HD, rfl⟩ := hrel
      have hx64 : x < 18446744073709551616 := by
        have : (10 : Int) ^ (q - 1) ≤ 10 ^ 19 := by
          have h := Nat.pow_le_pow_right (n := 10) (by decide) (show q - 1 ≤ 19 by omega)
          exact_mod_cast h
        omega
      by_cases hc : q = 20 ∨ 0 < x
      · have hq2 : 2 ≤ q := by
          rcases hc with h | h
          · omega
          · apply Nat.lt_of_not_le; intro h2
            have : q - 1 = 0 := by omega
            rw [this] at hx1; simp at hx1; omega
        have hcell := value_number.cells_get done (q - 1) (by omega)
        have hsize := value_number.cells_size done (by omega)
        have hS : Hid ((value_number.cells done).setIfInBounds (q - 1) (.int .u8 (48 + x % 10)) = value_number.cells ((48 + x % 10) :: done)) := by
          have := value_number.cells_set done (48 + x % 10) (by omega)
          rw [show 20 - done.length - 1 = q - 1 by omega] at this
          exact this
        have hx2 : x / 10 < 10 ^ (q - 1 - 1) := by
          have e : (10 : Int) ^ (q - 1) = 10 ^ (q - 1 - 1) * 10 := by rw [← Int.pow_succ]; congr 1; omega
          rw [e] at hx1; omega
        have HD2 : Hid (value_number.dec 20 U = value_number.ahead (q - 1) (x / 10) ++ ((48 + x % 10) :: done)) := by
          rcases hc with h | h
          · have h1 := HD.out
            rw [if_pos h] at h1
            have hdn : done = [] := List.length_eq_zero_iff.1 (by omega)
            show _ = _
            rw [h1, show (20 : Nat) = 19 + 1 by rfl, value_number.dec_step hx0, hdn, show q - 1 = 19 by omega]
          · have h1 := HD.out
            show _ = _
            by_cases h20 : q = 20
            · rw [if_pos h20] at h1
              have hdn : done = [] := List.length_eq_zero_iff.1 (by omega)
              rw [h1, show (20 : Nat) = 19 + 1 by rfl, value_number.dec_step hx0, hdn, show q - 1 = 19 by omega]
            · rw [if_neg h20] at h1
              rw [h1]
              unfold value_number.ahead
              rw [if_neg (by omega), show q = (q - 1) + 1 by omega, value_number.dec_step hx0]
              unfold value_number.ahead
              simp
        have hm1 : (48 + x % 10) % 256 = 48 + x % 10 := by omega
        by_cases h20 : q = 20
        · subst h20
          clear hc
          go_wp2
          go_round
          case rel => exact ⟨20 - 1, (48 + x % 10) :: done, x / 10, by simp; omega, by omega, by omega, hx2, by go_num, rfl, HD2, by rw [← hS.out]⟩
          case measure => simp [intOf]
        · have hb1 : ((q : Int) == 20) = false := by simp; omega
          have hb2 : decide (0 < x) = true := by simp; omega
          clear hc
          go_wp2
          go_round
          case rel => exact ⟨q - 1, (48 + x % 10) :: done, x / 10, by simp; omega, by omega, by omega, hx2, by rw [show (q : Int) - 1 = ((q - 1 : Nat) : Int) by omega], rfl, (by show _ = _; rw [if_neg (by omega)]; exact HD2.out), by rw [← hS.out]⟩
          case measure => simp [intOf]; omega
      · obtain rfl : x = 0 := by omega
        have hq20 : ¬ q = 20 := fun h => hc (.inl h)
        have HD3 : Hid (value_number.dec 20 U = done) := by
          have h := HD.out
          rw [if_neg hq20] at h
          exact h
        have hb1 : ((q : Int) == 20) = false := by simp; omega
        have hsize := value_number.cells_size done (by omega)
        clear hc
        first
          | (have hneg := hLs hn
             have hcell := value_number.cells_get done (q - 1) (by omega)
             have hS : (value_number.cells done).setIfInBounds (q - 1) (.int .u8 45) = value_number.cells (45 :: done) := by
               have := value_number.cells_set done 45 (by omega)
               rw [show 20 - done.length - 1 = q - 1 by omega] at this
               exact this
             have hcut := value_number.cut w.heap.size (q - 1) (by omega) ((q : Int) - 1) (by omega)
             have hcv := value_number.conv w (45 :: done) (q - 1) (by simp; omega)
             clear hLs hLp
             go_wp2
             go_ret
             exact ⟨by rw [hneg.out, HD3.out]; rfl, (Below.refl _ _).alloc (Nat.le_refl _) _⟩)
          | (have hpos := hLp hn
             have hcut := value_number.cut w.heap.size q (by omega) (q : Int) rfl
             have hcv := value_number.conv w done q (by omega)
             clear hLs hLp
             go_wp2
             go_ret
             exact ⟨by rw [hpos.out, HD3.out]; rfl, (Below.refl _ _).alloc (Nat.le_refl _) _⟩)
def value_number.f (a0 : Int) : Option ByteArray := if -9223372036854775808 ≤ a0 then (if a0 ≤ 9223372036854775807 then some (strOfNums (value_number.list a0)) else none) else none
theorem value_number.calls (a0 : Int) (r : ByteArray) (w : World) (h : value_number.f a0 = some r) : Calls Try.prog 30 #[.int .i64 a0] w fun e w' => e = .returned (.string r) ∧ Below w.heap.size w w' := by
  unfold value_number.f at h
  by_cases h0 : -9223372036854775808 ≤ a0
  · rw [if_pos h0] at h
    by_cases h1 : a0 ≤ 9223372036854775807
    · rw [if_pos h1] at h
      injection h with h
      subst h
      exact value_number.num a0 w h0 h1
    · rw [if_neg h1] at h; cases h
  · rw [if_neg h0] at h; cases h

end Go.Proofs.Ytekiaempcgjejaa.Z
