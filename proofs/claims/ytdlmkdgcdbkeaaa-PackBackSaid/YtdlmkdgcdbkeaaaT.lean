/- A state over a row of bytes that was itself made behind the call's start: what is told of both at the world that stands, and the start that a method's contract may be told from (the world cut off at the state's block). -/
import Derived.Test.YtdlmkdgcdbkeaaaX
namespace Go.Proofs.Ytdlmkdgcdbkeaaa.T
open Go.RowKit Go.Proofs.YtdlmkdgcdbkeaaaW.PrintWords Go.Proofs.YtdlmkdgcdbkeaaaW.PrintLast Go.Proofs.YtdlmkdgcdbkeaaaW.PrintMore
set_option linter.unusedVariables false
set_option linter.unusedSimpArgs false
def Typ (w : World) (A : Option Addr) (n e : Nat) : Prop := 0 < n → ∃ ad cells fr, A = some ad ∧ w.heap[ad.block]? = some (.cells cells e fr)
def Lo (A : Option Addr) (n g : Nat) : Prop := 0 < n → ∃ ad, A = some ad ∧ ad.block < g
def trunc (g : Nat) (w : World) : World := { w with heap := w.heap.extract 0 g }
variable {w W W1 : World} {g n e : Nat} {A : Option Addr} {xs : List Int}
theorem trunc_size (h : g ≤ w.heap.size) : (trunc g w).heap.size = g := by simp [trunc]; omega
theorem trunc_at {k : Nat} (h : k < g) : (trunc g w).heap[k]? = w.heap[k]? := by
  simp only [trunc, Array.getElem?_extract]
  by_cases h2 : k < w.heap.size
  · rw [if_pos (by omega), Nat.zero_add]
  · rw [if_neg (by omega), Array.getElem?_eq_none (by omega)]
theorem trunc_below (h : g ≤ w.heap.size) : Below g (trunc g w) w := ⟨rfl, rfl, rfl, by rw [trunc_size h]; exact h, fun k hk => (trunc_at hk).symm⟩
theorem C_move (h : (Kd.int .u8).C W A n xs) (hm : 0 < n → ∀ ad, A = some ad → W1.heap[ad.block]? = W.heap[ad.block]?) : (Kd.int .u8).C W1 A n xs := by
  refine ⟨h.1, h.2.1, fun hn => ?_⟩
  obtain ⟨ad, e, hc⟩ := h.2.2 hn
  refine ⟨ad, e, fun j p hp => ?_⟩
  obtain ⟨c, h1, h2, h3⟩ := hc j p hp
  refine ⟨c, h1, h2, fun i u hu => ?_⟩
  have h4 := h3 i u hu
  have hx := hm hn ad e
  unfold World.cell? at h4 ⊢
  rw [add_block] at h4 ⊢
  rw [hx]; exact h4
theorem C_lt (h : (Kd.int .u8).C W A n xs) (hn : 0 < n) : ∃ ad, A = some ad ∧ ad.block < W.heap.size := by
  obtain ⟨ad, e, hc⟩ := h.2.2 hn
  refine ⟨ad, e, ?_⟩
  have hl : 0 < xs.length := by rw [h.1]; exact hn
  obtain ⟨c, h1, h2, h3⟩ := hc 0 _ (List.getElem?_eq_getElem hl)
  have h1' : c.length = 1 := h1
  have h4 := h3 0 _ (List.getElem?_eq_getElem (by omega))
  have := World.block_lt_of_cell? _ _ h4
  rwa [add_block] at this
/-- A row written out: its cells. -/
theorem C_lit {α : Type} (d : Kd α) (t : Nat) (W : World) (ys : List α) (cs : List Value) (h : Reps (d.K W) d.sz ys cs) (hs : 0 < d.sz) (hm : ys.length ≤ 9223372036854775807) : d.C (W.alloc (.cells cs.toArray t)) (some ⟨W.heap.size, 0, none⟩) ys.length ys := by
  refine ⟨rfl, hm, fun _ => ⟨_, rfl, fun j p hp => ?_⟩⟩
  have h2 := h.2 j p hp
  have hl := d.K_len h2
  refine ⟨_, hl, d.K_below (below_alloc (Below.refl _ _) _) h2, fun i u hu => ?_⟩
  rw [show (Addr.add ⟨W.heap.size, 0, none⟩ (j * d.sz + i) : Addr) = ⟨W.heap.size, j * d.sz + i, none⟩ by simp [Addr.add]; omega]
  rw [World.cell?_alloc_new]
  have hi : i < d.sz := by rw [← hl]; exact (List.getElem?_eq_some_iff.1 hu).1
  rw [List.getElem?_take, if_pos hi, List.getElem?_drop] at hu
  simpa using hu
end Go.Proofs.Ytdlmkdgcdbkeaaa.T
