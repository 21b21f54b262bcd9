/- What the print's words lack: 'make' with a capacity, no element yet. -/
import Derived.Test.YtdlmkdgcdbkeaaaWMore
namespace Go.Proofs.Ytdlmkdgcdbkeaaa.X
open Go.RowKit Go.Proofs.YtdlmkdgcdbkeaaaW.PrintWords Go.Proofs.YtdlmkdgcdbkeaaaW.PrintLast Go.Proofs.YtdlmkdgcdbkeaaaW.PrintMore
set_option linter.unusedVariables false
set_option linter.unusedSimpArgs false
section
variable {P : Program} {ops : Array Oper} {o : Oper} {a : Act} {Q : Exit → Act → World → Prop} {rest : List Oper} {Kc : Act → World → Prop} {α : Type}
theorem R_empty (d : Kd α) {w1 : World} (base e : Nat) {ok : Nat → Prop} (g c : Nat) (hg : base ≤ g) (hok : ok g) (cs : Array Value) (hb : w1.heap[g]? = some (.cells cs e (0, 0))) (hc : c ≤ 281474976710656) (hcs : cs.size = c * d.sz) :
    d.R e w1 base ok (.slice (some ⟨g, 0, none⟩) 0 c) [] := by
  refine ⟨fun k hk => ?_, ?_⟩
  · have : g = k := by simpa [Value.ownBlock] using hk
    exact this ▸ hok
  · refine ⟨[], ⟨by simp, .inr ⟨g, c, cs, rfl, hg, hb, by simp, by simp [maxLen]; omega, hcs, by simp⟩⟩, Reps.none _ _⟩
theorem run_make0 {W : World} (t e : TypeId) (z : Value) (bytes sz : Nat) (ht : P.underlying t = some (.slice e)) (hinfo : (P.info? e).map (fun i => (i.zero, i.size, i.bytes)) = some (some z, sz, bytes)) (hb0 : 0 < bytes)
    (n : Int) (h0 : 0 ≤ n) (hl : n.toNat * bytes ≤ 281474976710656) :
    (Instr.makeSlice t (.int .i64 0) (.int .i64 n)).run P W = .ok (.slice (some ⟨W.heap.size, 0, none⟩) 0 n.toNat) (W.alloc (.cells (madeCells z.cells (n.toNat * sz)) e)) := by
  obtain ⟨m, rfl⟩ := Int.eq_ofNat_of_zero_le h0
  simp only [Int.toNat_natCast] at hl ⊢
  obtain ⟨i0, hi, hzz⟩ := Option.map_eq_some_iff.1 hinfo
  simp only [Prod.mk.injEq] at hzz
  obtain ⟨hz0, hz1, hz2⟩ := hzz
  have hm : m ≤ 281474976710656 := Nat.le_trans (Nat.le_mul_of_pos_right _ hb0) hl
  have hr := run_make (P := P) W t e i0 z ht hi hz0 .i64 .i64 0 (m : Int) (by omega) (by omega)
    (by
      have h3 : ((i0.bytes * m : Nat) : Int) ≤ 281474976710656 := by rw [hz2, Nat.mul_comm]; omega
      rwa [Int.natCast_mul] at h3) (by omega)
  simp only [Int.toNat_natCast] at hr
  rw [hz1] at hr
  exact hr
theorem make0_parts (d : Kd α) {w0 W : World} (base e : Nat) (z : Value) (bytes : Nat) (hz : z.cells.size = d.sz) (hb0 : 0 < bytes) {ok : Nat → Prop} (hfresh : ok W.heap.size) (n : Int) (h0 : 0 ≤ n) (hl : n.toNat * bytes ≤ 281474976710656) (HB : Below base w0 W) (hbase : base ≤ W.heap.size) :
    d.R e (W.alloc (.cells (madeCells z.cells (n.toNat * d.sz)) e)) base ok (.slice (some ⟨W.heap.size, 0, none⟩) 0 n.toNat) [] ∧ Below base w0 (W.alloc (.cells (madeCells z.cells (n.toNat * d.sz)) e)) ∧ W.grownBy (W.alloc (.cells (madeCells z.cells (n.toNat * d.sz)) e)) none := by
  refine ⟨?_, HB.alloc hbase _, World.grownBy_alloc W _ none⟩
  exact R_empty d base e W.heap.size n.toNat hbase hfresh _ (heap_alloc_new W _) (Nat.le_trans (Nat.le_mul_of_pos_right _ hb0) hl) (by simp [madeCells])
theorem R_make0 (d : Kd α) {w0 W : World} (base e : Nat) (hgd : o.guard = none) {N : Tmp} (hd : o.dst = some N) (t : TypeId) (x y : Operand) (ho : o.op = .makeSlice t x y) (n : Int) (hx : a.eval x = .int .i64 0) (hy : a.eval y = .int .i64 n)
    (ht : P.underlying t = some (.slice e)) (z : Value) (bytes : Nat) (hinfo : (P.info? e).map (fun i => (i.zero, i.size, i.bytes)) = some (some z, d.sz, bytes)) (hz : z.cells.size = d.sz) (hs0 : 0 < d.sz) (hb0 : 0 < bytes)
    (z0 : α) {ok okp : Nat → Prop} (hzero : d.M W base okp z0 z.cells.toList) (hok : ∀ k, okp k → ok k) (hfresh : ok W.heap.size) (h0 : 0 ≤ n) (hl : n.toNat * bytes ≤ 281474976710656) (HB : Below base w0 W) (hbase : base ≤ W.heap.size)
    (h : ∀ v1 w1, d.R e w1 base ok v1 [] → Below base w0 w1 → W.grownBy w1 none → (∃ b, v1.ownBlock = some b ∧ W.heap.size ≤ b) → wpList P ops Q rest (a.put o.dst v1) w1) : wpList P ops Q (o :: rest) a W := by
  obtain ⟨p1, p2, p3⟩ := make0_parts (w0 := w0) d base e z bytes hz hb0 hfresh n h0 hl HB hbase
  have hr := run_make0 (P := P) (W := W) t e z bytes d.sz ht hinfo hb0 n h0 hl
  refine Kd.event_run hgd ?_ (h _ _ p1 p2 p3 ⟨W.heap.size, by simp [Value.ownBlock], Nat.le_refl _⟩)
  simp [execOp, ho, hx, hy, hr]
theorem R_make0_step (d : Kd α) {w0 W : World} (base e : Nat) (hw : Region.wanted o (yielded ops a.tmps) = true) {N : Tmp} (hd : o.dst = some N) (t : TypeId) (x y : Operand) (ho : o.op = .makeSlice t x y) (n : Int) (hx : a.eval x = .int .i64 0) (hy : a.eval y = .int .i64 n)
    (ht : P.underlying t = some (.slice e)) (z : Value) (bytes : Nat) (hinfo : (P.info? e).map (fun i => (i.zero, i.size, i.bytes)) = some (some z, d.sz, bytes)) (hz : z.cells.size = d.sz) (hs0 : 0 < d.sz) (hb0 : 0 < bytes)
    (z0 : α) {ok okp : Nat → Prop} (hzero : d.M W base okp z0 z.cells.toList) (hok : ∀ k, okp k → ok k) (hfresh : ok W.heap.size) (h0 : 0 ≤ n) (hl : n.toNat * bytes ≤ 281474976710656) (HB : Below base w0 W) (hbase : base ≤ W.heap.size)
    (h : ∀ v1 w1, d.R e w1 base ok v1 [] → Below base w0 w1 → W.grownBy w1 none → (∃ b, v1.ownBlock = some b ∧ W.heap.size ≤ b) → Kc (a.put o.dst v1) w1) : if Region.wanted o (yielded ops a.tmps) = true then Oper.wp P o a W Kc Q else Kc (a.put o.dst undef) W := by
  obtain ⟨p1, p2, p3⟩ := make0_parts (w0 := w0) d base e z bytes hz hb0 hfresh n h0 hl HB hbase
  have hr := run_make0 (P := P) (W := W) t e z bytes d.sz ht hinfo hb0 n h0 hl
  rw [if_pos hw]
  unfold Oper.wp
  rw [show (execOp a.eval o).run P W = .ok (.value (.slice (some ⟨W.heap.size, 0, none⟩) 0 n.toNat)) (W.alloc (.cells (madeCells z.cells (n.toNat * d.sz)) e)) by simp [execOp, ho, hx, hy, hr]]
  exact h _ _ p1 p2 p3 ⟨W.heap.size, by simp [Value.ownBlock], Nat.le_refl _⟩
end
end Go.Proofs.Ytdlmkdgcdbkeaaa.X
