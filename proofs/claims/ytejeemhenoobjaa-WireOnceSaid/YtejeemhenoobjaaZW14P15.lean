/- Part 15 of what the row leans on: abstract values and states, their rules, and the contracts of the functions. -/
import Derived.Test.YtejeemhenoobjaaZW14P14
namespace Go.Proofs.Ytejeemhenoobjaa.Asl
open Go Go.RowKit
open Go.Proofs.Ytejeemhenoobjaa.Errs (EV)
set_option linter.unusedVariables false
set_option linter.unusedSimpArgs false
set_option maxRecDepth 100000
set_option maxHeartbeats 8000000
def listF (w : ByteArray) (most : Int) (s : RSt) (x : Option EV) : List FlowV × RSt × Option EV :=
  if atE x (w ++ ⟨#[115]⟩) (sU most s).2.2 = none then ((flowsS (sU most s).1.toNat 0 (sU most s).2 []).1, (flowsS (sU most s).1.toNat 0 (sU most s).2 []).2.2, (flowsS (sU most s).1.toNat 0 (sU most s).2 []).2.1.map fun p => .wrap (placeT w p.1) (.code p.2)) else ([], (sU most s).2, atE x (w ++ ⟨#[115]⟩) (sU most s).2.2)
structure ListIF (bs : List Int) (w : ByteArray) (k : Nat) (s1 : RSt) (x1 : Option EV) (i a : Nat) (s : RSt) (out : List FlowV) (x : Option EV) : Prop where
  le : i ≤ k
  at_ : At bs a s.1
  go : x = none → x1 = none ∧ flowsS (k - i) i s out = flowsS k 0 s1 []
  stop : ∀ y, x = some y → (x1 = none ∧ ∃ j c, flowsS k 0 s1 [] = (out, some (j, c), s) ∧ y = .wrap (placeT w j) (.code c)) ∨ (x1 = some y ∧ i = 0 ∧ out = [] ∧ s = s1)
  len : out.length = i
theorem ListIF.next {bs : List Int} {w : ByteArray} {k : Nat} {s1 : RSt} {x1 : Option EV} {i a : Nat} {s : RSt} {out : List FlowV} (g : ListIF bs w k s1 x1 i a s out none) (hlt : i < k) {a' : Nat} (ha : At bs a' (flowS s).2.2.1) : ListIF bs w k s1 x1 (i + 1) a' (flowS s).2.2 (out ++ [(flowS s).1]) (atE none (placeT w i) (wrE (flowS s).2.1 (flowS s).2.2.2)) := by
  have hg := g.go rfl
  have hs := hg.2
  rw [show k - i = (k - (i + 1)) + 1 by omega, flowsS] at hs
  refine ⟨hlt, ha, ?_, ?_, by simp [g.len]⟩
  · intro hx
    rw [atE_none] at hx
    refine ⟨hg.1, ?_⟩
    by_cases hc : wrE (flowS s).2.1 (flowS s).2.2.2 = 0
    · rw [if_neg (by simpa using hc)] at hs; exact hs
    · rw [if_neg hc] at hx; cases hx
  · intro y hy
    rw [atE_none] at hy
    refine Or.inl ⟨hg.1, ?_⟩
    by_cases hc : wrE (flowS s).2.1 (flowS s).2.2.2 = 0
    · rw [if_pos hc] at hy; cases hy
    · rw [if_neg hc] at hy
      rw [if_pos hc] at hs
      exact ⟨_, _, hs.symm, by cases hy; rfl⟩
theorem ListIF.last {bs : List Int} {w : ByteArray} {most : Int} {s0 : RSt} {x0 : Option EV} {i a : Nat} {s : RSt} {out : List FlowV} {x : Option EV} (g : ListIF bs w (sU most s0).1.toNat (sU most s0).2 (atE x0 (w ++ ⟨#[115]⟩) (sU most s0).2.2) i a s out x) (h : x = none → (sU most s0).1.toNat ≤ i) : listF w most s0 x0 = (out, s, x) := by
  unfold listF
  cases x with
  | none =>
    have hg := g.go rfl
    rw [show (sU most s0).1.toNat - i = 0 by have := h rfl; omega, flowsS] at hg
    rw [if_pos hg.1, ← hg.2]; rfl
  | some y =>
    rcases g.stop y rfl with ⟨h1, j, c, h2, h3⟩ | ⟨h1, h2, h3, h4⟩
    · rw [if_pos h1, h2, h3]; rfl
    · rw [if_neg (by rw [h1]; simp), h1, h3, h4]
theorem flows_at {bs : List Int} : ∀ (k i : Nat) (s : RSt) (out : List FlowV) (a : Nat), At bs a s.1 → ∃ a', At bs a' (flowsS k i s out).2.2.1
  | 0, _, s, _, a, h => ⟨a, h⟩
  | k + 1, i, s, out, a, h => by
    obtain ⟨a1, h1, _⟩ := c_wflow h s.2 none ⟨#[]⟩
    rw [flowsS]
    split
    · exact ⟨a1, h1⟩
    · exact flows_at k (i + 1) _ _ a1 h1
theorem listF_at {bs : List Int} {a : Nat} {l : List Int} (h : At bs a l) (e : Int) (x : Option EV) (w : ByteArray) (most : Int) (hm : 0 ≤ most ∧ most ≤ 1000000) : ∃ a', At bs a' (listF w most (l, e) x).2.1.1 := by
  obtain ⟨a1, g1, _⟩ := c_wrnum h e x most hm
  unfold listF
  split
  · exact flows_at _ _ _ _ a1 g1
  · exact ⟨a1, g1⟩
theorem c_wlistF {bs : List Int} {a : Nat} {l : List Int} (h : At bs a l) (e : Int) (x : Option EV) (w : ByteArray) (hw : w.size ≤ 1000) (most : Int) (hm : 0 ≤ most ∧ most ≤ 1000000) : ∃ a', At bs a' (listF w most (l, e) x).2.1.1 ∧ CallD Try.prog 30 [.ptr 100001 0, .raw (.string w), .raw (.int .i64 most), .fn (.func (31)) [.ptr 100001 0] []] (wr2H x bs a e) (.sl 4 ((listF w most (l, e) x).1.map flowAV)) (wr2H (listF w most (l, e) x).2.2 bs a' (listF w most (l, e) x).2.1.2) := by
  obtain ⟨aR, hat⟩ := listF_at h e x w most hm
  refine ⟨aR, hat, ?_⟩
  have hpos := hat.pos
  clear hat
  obtain ⟨a1, g1, k1⟩ := c_wrnum h e x most hm
  have w1 := r_U h.b e (most := most) (by omega)
  have k2 := c_Err bs a1 (sU most (l, e)).2.2
  have k3 := c_fails x (w ++ ⟨#[115]⟩) (sU most (l, e)).2.2 bs a1 (sU most (l, e)).2.2
  have hlast : ∀ i a' s out x', ListIF bs w (sU most (l, e)).1.toNat (sU most (l, e)).2 (atE x (w ++ ⟨#[115]⟩) (sU most (l, e)).2.2) i a' s out x' → (x' = none → (sU most (l, e)).1.toNat ≤ i) → listF w most (l, e) x = (out, s, x') := fun i a' s out x' g h => ListIF.last g h
  generalize listF w most (l, e) x = res at hlast hpos ⊢
  have start : ListIF bs w (sU most (l, e)).1.toNat (sU most (l, e)).2 (atE x (w ++ ⟨#[115]⟩) (sU most (l, e)).2.2) 0 a1 (sU most (l, e)).2 [] (atE x (w ++ ⟨#[115]⟩) (sU most (l, e)).2.2) := by
    refine ⟨Nat.zero_le _, g1, fun h => ⟨h, by rw [Nat.sub_zero]⟩, fun y h => Or.inr ⟨h, rfl, rfl, rfl⟩, rfl⟩
  generalize atE x (w ++ ⟨#[115]⟩) (sU most (l, e)).2.2 = x1 at hlast start k3
  generalize sU most (l, e) = s0 at hlast start k1 k2 k3 w1
  obtain ⟨n, l1, e1⟩ := s0
  simp only at hlast start k1 k2 k3 w1
  obtain ⟨k, rfl⟩ : ∃ k : Nat, n = k := ⟨n.toNat, by omega⟩
  simp only [Int.toNat_natCast] at hlast start
  have hkm : k ≤ 1000000 := by omega
  clear g1 h
  refine calls_go (nt := 48) (rs := [.tmp 8]) Try.func30 rfl rfl rfl (by simp) (hbig_hpL (by simp)) ?_; intro Q hQ hW
  unfold wr2H
  repeat' (first
 | (with_reducible refine run_n ?_; with_reducible first | refine hK _ _ (by simp) ?_ | refine hK _ _ ?_; clear hK K)
 | (refine zzc ?_)
 | (with_reducible refine awp_regT (by kernel_rfl) ?_; intro K hK)
 | (with_reducible refine a_cond (ht := ?_) (hf := ?_) <;> intro hb <;> (try simp at hb) <;> (try contradiction) <;> (try subst hb) <;> (try omega))
 | (with_reducible first | refine a_move (hr:=?_) | refine a_assign (hr:=?_) | refine a_load (hr:=?_) | refine a_fieldAddr (hr:=?_) | refine a_nilCheck (hr:=?_) | refine a_bin (hr:=?_) | refine a_pick (hr:=?_) | refine a_eqI (hr:=?_) | refine a_neI (hr:=?_) | refine a_eqB (hr:=?_) | refine a_eqS (hr:=?_) | refine a_buildSlice (hr:=?_) | refine a_append (hr:=?_) | refine a_append0 (hr:=?_) | refine a_appendX (hr:=?_) | refine a_callM (p := 100001) (k := 100000) (q := 100000) (hcall := k1) (hr:=?_) | refine a_callP (p := 100000) (hcall := k2) (hr:=?_) | refine a_callM (p := 100001) (k := 100000) (q := 100000) (hcall := k3) (hr:=?_) | refine a_gT (hr:=?_) | refine a_gF (hr:=?_) | refine a_gU (hr:=?_))
 | (with_reducible refine a_gB (hT := ?_) (hF := ?_) <;> intro hb <;> (try simp at hb) <;> (try contradiction) <;> (try subst hb) <;> (try omega))
 | fail)
  refine awp_inv (α := Nat × Nat × RSt × List FlowV × Option EV) (fun s => [(0, .ptr 100001 0), (1, .raw (.string w)), (3, .fn (.func (31)) [.ptr 100001 0] []), (9, .raw (.int .i64 k)), (10, orow 60 4 (s.2.2.2.1.map flowAV)), (11, .raw (.int .i64 s.1))]) (fun s => ohp 60 4 (s.2.2.2.1.map flowAV) (hpL [(100001, .box (.agg [.ptr 100000 0, errO s.2.2.2.2])), (100000, .box (rdAV bs s.2.1 s.2.2.1.2))])) (fun s => ListIF bs w k (l1, e1) x1 s.1 s.2.1 s.2.2.1 s.2.2.2.1 s.2.2.2.2) (fun s => k - s.1) (0, a1, (l1, e1), [], x1) start (zzw) ?_
  clear start k1 k2 k3
  rintro ⟨i, a2, ⟨l2, e2⟩, out, y⟩ g
  simp only at g ⊢
  have gl := g.len
  have gle := g.le
  have fin : (y = none → k ≤ i) → res = (out, (l2, e2), y) ∧ aR = a2 := fun hy => by
    have h1 := hlast i a2 (l2, e2) out y g hy
    refine ⟨h1, ?_⟩
    rw [h1] at hpos
    rw [hpos, g.at_.pos]
  cases y with
  | none =>
    rcases Nat.lt_or_ge i k with hlt | hge
    · obtain ⟨a3, h3, c3⟩ := c_wflow g.at_ e2 none (placeT w i)
      have gn := g.next hlt h3
      have v1 := c_VInt i
      have v2 := c_Print 1 i ⟨#[]⟩ (by omega) (by decide)
      have hps : (prtS 1 i ⟨#[]⟩).size ≤ 1000 := by
        have := digs10_size i
        show (strOfNums (prtL 1 i ⟨#[]⟩)).size ≤ 1000
        rw [show prtL 1 i ⟨#[]⟩ = digs10 i from if_pos rfl]
        omega
      unfold placeT at gn c3
      generalize prtS 1 i ⟨#[]⟩ = pp at *
      generalize atE none (w ++ ⟨#[32]⟩ ++ pp) (wrE (flowS (l2, e2)).2.1 (flowS (l2, e2)).2.2.2) = y2 at gn c3
      generalize flowS (l2, e2) = r at gn h3 c3
      obtain ⟨v, cc, l3, e3⟩ := r
      simp only at gn h3 c3
      clear fin hlast g hpos
      repeat' (first
 | (with_reducible refine run_n ?_; with_reducible first | refine hK _ _ (by simp) ?_ | refine hK _ _ ?_; clear hK K)
 | (refine zzc ?_)
 | (with_reducible refine awp_regT (by kernel_rfl) ?_; intro K hK)
 | (with_reducible refine a_cond (ht := ?_) (hf := ?_) <;> intro hb <;> (try simp at hb) <;> (try contradiction) <;> (try subst hb) <;> (try omega))
 | (with_reducible first | refine a_move (hr:=?_) | refine a_assign (hr:=?_) | refine a_load (hr:=?_) | refine a_fieldAddr (hr:=?_) | refine a_nilCheck (hr:=?_) | refine a_bin (hr:=?_) | refine a_pick (hr:=?_) | refine a_eqI (hr:=?_) | refine a_neI (hr:=?_) | refine a_eqB (hr:=?_) | refine a_eqS (hr:=?_) | refine a_buildSlice (hr:=?_) | refine a_append (hr:=?_) | refine a_append0 (hr:=?_) | refine a_appendX (hr:=?_) | refine a_call0 (hcall := v1) (hr:=?_) | refine a_call0 (hcall := v2) (hr:=?_) | refine a_callM (p := 100001) (k := 100000) (q := 100000) (hcall := c3) (hr:=?_) | refine a_gT (hr:=?_) | refine a_gF (hr:=?_) | refine a_gU (hr:=?_))
 | (with_reducible refine a_gB (hT := ?_) (hF := ?_) <;> intro hb <;> (try simp at hb) <;> (try contradiction) <;> (try subst hb) <;> (try omega))
 | fail)
      exact ⟨(i + 1, a3, (l3, e3), out ++ [v], y2), by simp only; omega, gn, by rw [List.map_append]; exact zzx 60 46⟩
    · obtain ⟨hr, ha⟩ := fin fun _ => hge
      subst hr ha
      clear fin hlast hpos g
      repeat' (first
 | (with_reducible refine run_n ?_; with_reducible first | refine hK _ _ (by simp) ?_ | refine hK _ _ ?_; clear hK K)
 | (refine zzc ?_)
 | (with_reducible refine awp_regT (by kernel_rfl) ?_; intro K hK)
 | (with_reducible refine a_cond (ht := ?_) (hf := ?_) <;> intro hb <;> (try simp at hb) <;> (try contradiction) <;> (try subst hb) <;> (try omega))
 | (with_reducible first | refine a_move (hr:=?_) | refine a_assign (hr:=?_) | refine a_load (hr:=?_) | refine a_fieldAddr (hr:=?_) | refine a_nilCheck (hr:=?_) | refine a_bin (hr:=?_) | refine a_pick (hr:=?_) | refine a_eqI (hr:=?_) | refine a_neI (hr:=?_) | refine a_eqB (hr:=?_) | refine a_eqS (hr:=?_) | refine a_buildSlice (hr:=?_) | refine a_append (hr:=?_) | refine a_append0 (hr:=?_) | refine a_appendX (hr:=?_) | refine a_gT (hr:=?_) | refine a_gF (hr:=?_) | refine a_gU (hr:=?_))
 | (with_reducible refine a_gB (hT := ?_) (hF := ?_) <;> intro hb <;> (try simp at hb) <;> (try contradiction) <;> (try subst hb) <;> (try omega))
 | fail)
      all_goals ((refine zzr hQ ?_))
      all_goals (exact fin_rowL)
  | some y =>
    obtain ⟨hr, ha⟩ := fin fun h => by cases h
    subst hr ha
    clear fin hlast hpos g
    repeat' (first
 | (with_reducible refine run_n ?_; with_reducible first | refine hK _ _ (by simp) ?_ | refine hK _ _ ?_; clear hK K)
 | (refine zzc ?_)
 | (with_reducible refine awp_regT (by kernel_rfl) ?_; intro K hK)
 | (with_reducible refine a_cond (ht := ?_) (hf := ?_) <;> intro hb <;> (try simp at hb) <;> (try contradiction) <;> (try subst hb) <;> (try omega))
 | (with_reducible first | refine a_move (hr:=?_) | refine a_assign (hr:=?_) | refine a_load (hr:=?_) | refine a_fieldAddr (hr:=?_) | refine a_nilCheck (hr:=?_) | refine a_bin (hr:=?_) | refine a_pick (hr:=?_) | refine a_eqI (hr:=?_) | refine a_neI (hr:=?_) | refine a_eqB (hr:=?_) | refine a_eqS (hr:=?_) | refine a_buildSlice (hr:=?_) | refine a_append (hr:=?_) | refine a_append0 (hr:=?_) | refine a_appendX (hr:=?_) | refine a_gT (hr:=?_) | refine a_gF (hr:=?_) | refine a_gU (hr:=?_))
 | (with_reducible refine a_gB (hT := ?_) (hF := ?_) <;> intro hb <;> (try simp at hb) <;> (try contradiction) <;> (try subst hb) <;> (try omega))
 | fail)
    all_goals ((refine zzr hQ ?_))
    all_goals (exact fin_rowL)
end Go.Proofs.Ytejeemhenoobjaa.Asl

namespace Go.Proofs.Ytejeemhenoobjaa.Asl
open Go Go.RowKit
open Go.Proofs.Ytejeemhenoobjaa.Errs (EV)
set_option linter.unusedVariables false
set_option linter.unusedSimpArgs false
set_option maxRecDepth 100000
set_option maxHeartbeats 4000000
@[simp] theorem min_3 (n : Nat) : min ((n : Int) + 1 + 1 + 1) 3 = 3 := by omega
theorem hd_ne {l m : List Int} (hB : IsB l) (hm : IsB m) (h : l ≠ m) {s : ByteArray} (hs : strOfNums m = s) : ¬ strOfNums l = s := fun e => h (strOf_inj hB hm (e.trans hs.symm))
theorem c_head (l : List Int) (hB : IsB l) (hl : l.length ≤ 4611686018427387903) : CallD Try.prog 21 [.sl 1 (u8s l)] noHeap (.raw (.int .i64 (headE l))) noHeap := by
  rcases l with _ | ⟨a, _ | ⟨b, _ | ⟨c, r⟩⟩⟩
  · refine zzg (nt := 18) (rs := [.tmp 2]) Try.func21 ?_; intro Q hQ hW
    repeat' (first
 | (with_reducible refine run_n ?_; with_reducible first | refine hK _ _ (by simp) ?_ | refine hK _ _ ?_; clear hK K)
 | (refine zzc ?_)
 | (with_reducible refine awp_regT (by kernel_rfl) ?_; intro K hK)
 | (with_reducible refine awp_regAM (id := 2) [] mixed (by kernel_rfl) (by kernel_rfl) ?_; intro K hK)
 | (with_reducible refine a_cond (ht := ?_) (hf := ?_) <;> intro hb <;> (try simp at hb) <;> (try contradiction) <;> (try subst hb) <;> (try omega))
 | (with_reducible first | refine a_move (hr:=?_) | refine a_assign (hr:=?_) | refine a_bin (hr:=?_) | refine a_lenS (hr:=?_) | refine a_lenR (hr:=?_) | refine a_neB (hr:=?_) | refine a_conv (hr:=?_) | refine a_bytesStr (hr:=?_) | refine a_strBytes (hr:=?_) | refine a_sameSl (hr:=?_) | refine a_sliceArr (hr:=?_) | refine a_neS (hr:=?_) | refine a_sliceS (hr:=?_) | refine a_sliceR (hr:=?_) | refine a_minC (hr:=?_))
 | fail)
    all_goals ((refine zzr hQ ?_))
    all_goals (exact zzd)
  · by_cases h : a = 98
    · obtain rfl := h
      rw [show headE ([98]) = 6 from rfl]
      clear hB
      refine zzg (nt := 18) (rs := [.tmp 2]) Try.func21 ?_; intro Q hQ hW
      repeat' (first
 | (with_reducible refine run_n ?_; with_reducible first | refine hK _ _ (by simp) ?_ | refine hK _ _ ?_; clear hK K)
 | (refine zzc ?_)
 | (with_reducible refine awp_regT (by kernel_rfl) ?_; intro K hK)
 | (with_reducible refine awp_regAM (id := 2) [] mixed (by kernel_rfl) (by kernel_rfl) ?_; intro K hK)
 | (with_reducible refine a_cond (ht := ?_) (hf := ?_) <;> intro hb <;> (try simp at hb) <;> (try contradiction) <;> (try subst hb) <;> (try omega))
 | (with_reducible first | refine a_move (hr:=?_) | refine a_assign (hr:=?_) | refine a_bin (hr:=?_) | refine a_lenS (hr:=?_) | refine a_lenR (hr:=?_) | refine a_neB (hr:=?_) | refine a_conv (hr:=?_) | refine a_bytesStr (hr:=?_) | refine a_strBytes (hr:=?_) | refine a_sameSl (hr:=?_) | refine a_sliceArr (hr:=?_) | refine a_neS (hr:=?_) | refine a_sliceS (hr:=?_) | refine a_sliceR (hr:=?_) | refine a_minC (hr:=?_))
 | fail)
      all_goals ((refine zzr hQ ?_))
      all_goals (exact zzd)
    · have hne : ¬ (⟨#[UInt8.ofNat a.toNat]⟩ : ByteArray) = (⟨#[98, 112, 49]⟩ : ByteArray).extract 0 1 := hd_ne (l := [a]) (m := [98]) (hB) (by intro x hx; simp at hx; omega) (by simpa using h) rfl
      rw [show headE ([a]) = 8 from if_neg h]
      clear hB
      refine zzg (nt := 18) (rs := [.tmp 2]) Try.func21 ?_; intro Q hQ hW
      repeat' (first
 | (with_reducible refine run_n ?_; with_reducible first | refine hK _ _ (by simp) ?_ | refine hK _ _ ?_; clear hK K)
 | (refine zzc ?_)
 | (with_reducible refine awp_regT (by kernel_rfl) ?_; intro K hK)
 | (with_reducible refine awp_regAM (id := 2) [] mixed (by kernel_rfl) (by kernel_rfl) ?_; intro K hK)
 | (with_reducible refine a_cond (ht := ?_) (hf := ?_) <;> intro hb <;> (try simp at hb) <;> (try contradiction) <;> (try subst hb) <;> (try omega))
 | (with_reducible first | refine a_move (hr:=?_) | refine a_assign (hr:=?_) | refine a_bin (hr:=?_) | refine a_lenS (hr:=?_) | refine a_lenR (hr:=?_) | refine a_neB (hr:=?_) | refine a_conv (hr:=?_) | refine a_bytesStr (hr:=?_) | refine a_strBytes (hr:=?_) | refine a_sameSl (hr:=?_) | refine a_sliceArr (hr:=?_) | refine a_neS (hr:=?_) | refine a_sliceS (hr:=?_) | refine a_sliceR (hr:=?_) | refine a_minC (hr:=?_))
 | fail)
      all_goals first
        | exact absurd (by assumption) hne
        | (((refine zzr hQ ?_)); exact zzd)
  · by_cases h : a = 98 ∧ b = 112
    · obtain ⟨rfl, rfl⟩ := h
      rw [show headE ([98, 112]) = 6 from rfl]
      clear hB
      refine zzg (nt := 18) (rs := [.tmp 2]) Try.func21 ?_; intro Q hQ hW
      repeat' (first
 | (with_reducible refine run_n ?_; with_reducible first | refine hK _ _ (by simp) ?_ | refine hK _ _ ?_; clear hK K)
 | (refine zzc ?_)
 | (with_reducible refine awp_regT (by kernel_rfl) ?_; intro K hK)
 | (with_reducible refine awp_regAM (id := 2) [] mixed (by kernel_rfl) (by kernel_rfl) ?_; intro K hK)
 | (with_reducible refine a_cond (ht := ?_) (hf := ?_) <;> intro hb <;> (try simp at hb) <;> (try contradiction) <;> (try subst hb) <;> (try omega))
 | (with_reducible first | refine a_move (hr:=?_) | refine a_assign (hr:=?_) | refine a_bin (hr:=?_) | refine a_lenS (hr:=?_) | refine a_lenR (hr:=?_) | refine a_neB (hr:=?_) | refine a_conv (hr:=?_) | refine a_bytesStr (hr:=?_) | refine a_strBytes (hr:=?_) | refine a_sameSl (hr:=?_) | refine a_sliceArr (hr:=?_) | refine a_neS (hr:=?_) | refine a_sliceS (hr:=?_) | refine a_sliceR (hr:=?_) | refine a_minC (hr:=?_))
 | fail)
      all_goals ((refine zzr hQ ?_))
      all_goals (exact zzd)
    · have hne : ¬ (⟨#[UInt8.ofNat a.toNat, UInt8.ofNat b.toNat]⟩ : ByteArray) = (⟨#[98, 112, 49]⟩ : ByteArray).extract 0 2 := hd_ne (l := [a, b]) (m := [98, 112]) (hB) (by intro x hx; simp at hx; omega) (by simpa using h) rfl
      rw [show headE ([a, b]) = 8 from if_neg h]
      clear hB
      refine zzg (nt := 18) (rs := [.tmp 2]) Try.func21 ?_; intro Q hQ hW
      repeat' (first
 | (with_reducible refine run_n ?_; with_reducible first | refine hK _ _ (by simp) ?_ | refine hK _ _ ?_; clear hK K)
 | (refine zzc ?_)
 | (with_reducible refine awp_regT (by kernel_rfl) ?_; intro K hK)
 | (with_reducible refine awp_regAM (id := 2) [] mixed (by kernel_rfl) (by kernel_rfl) ?_; intro K hK)
 | (with_reducible refine a_cond (ht := ?_) (hf := ?_) <;> intro hb <;> (try simp at hb) <;> (try contradiction) <;> (try subst hb) <;> (try omega))
 | (with_reducible first | refine a_move (hr:=?_) | refine a_assign (hr:=?_) | refine a_bin (hr:=?_) | refine a_lenS (hr:=?_) | refine a_lenR (hr:=?_) | refine a_neB (hr:=?_) | refine a_conv (hr:=?_) | refine a_bytesStr (hr:=?_) | refine a_strBytes (hr:=?_) | refine a_sameSl (hr:=?_) | refine a_sliceArr (hr:=?_) | refine a_neS (hr:=?_) | refine a_sliceS (hr:=?_) | refine a_sliceR (hr:=?_) | refine a_minC (hr:=?_))
 | fail)
      all_goals first
        | exact absurd (by assumption) hne
        | (((refine zzr hQ ?_)); exact zzd)
  · by_cases h : a = 98 ∧ b = 112 ∧ c = 49
    · obtain ⟨rfl, rfl, rfl⟩ := h
      rw [show headE (98 :: 112 :: 49 :: r) = 0 from rfl]
      clear hB
      refine zzg (nt := 18) (rs := [.tmp 2]) Try.func21 ?_; intro Q hQ hW
      repeat' (first
 | (with_reducible refine run_n ?_; with_reducible first | refine hK _ _ (by simp) ?_ | refine hK _ _ ?_; clear hK K)
 | (refine zzc ?_)
 | (with_reducible refine awp_regT (by kernel_rfl) ?_; intro K hK)
 | (with_reducible refine awp_regAM (id := 2) [] mixed (by kernel_rfl) (by kernel_rfl) ?_; intro K hK)
 | (with_reducible refine a_cond (ht := ?_) (hf := ?_) <;> intro hb <;> (try simp at hb) <;> (try contradiction) <;> (try subst hb) <;> (try omega))
 | (with_reducible first | refine a_move (hr:=?_) | refine a_assign (hr:=?_) | refine a_bin (hr:=?_) | refine a_lenS (hr:=?_) | refine a_lenR (hr:=?_) | refine a_neB (hr:=?_) | refine a_conv (hr:=?_) | refine a_bytesStr (hr:=?_) | refine a_strBytes (hr:=?_) | refine a_sameSl (hr:=?_) | refine a_sliceArr (hr:=?_) | refine a_neS (hr:=?_) | refine a_sliceS (hr:=?_) | refine a_sliceR (hr:=?_) | refine a_minC (hr:=?_))
 | fail)
      all_goals ((refine zzr hQ ?_))
      all_goals (exact zzd)
    · have hne : ¬ (⟨#[UInt8.ofNat a.toNat, UInt8.ofNat b.toNat, UInt8.ofNat c.toNat]⟩ : ByteArray) = (⟨#[98, 112, 49]⟩ : ByteArray).extract 0 3 := hd_ne (l := [a, b, c]) (m := [98, 112, 49]) (fun x hx => hB x (by simp at hx ⊢; omega)) (by intro x hx; simp at hx; omega) (by simpa using h) rfl
      rw [show headE (a :: b :: c :: r) = 8 from if_neg h]
      clear hB
      refine zzg (nt := 18) (rs := [.tmp 2]) Try.func21 ?_; intro Q hQ hW
      repeat' (first
 | (with_reducible refine run_n ?_; with_reducible first | refine hK _ _ (by simp) ?_ | refine hK _ _ ?_; clear hK K)
 | (refine zzc ?_)
 | (with_reducible refine awp_regT (by kernel_rfl) ?_; intro K hK)
 | (with_reducible refine awp_regAM (id := 2) [] mixed (by kernel_rfl) (by kernel_rfl) ?_; intro K hK)
 | (with_reducible refine a_cond (ht := ?_) (hf := ?_) <;> intro hb <;> (try simp at hb) <;> (try contradiction) <;> (try subst hb) <;> (try omega))
 | (with_reducible first | refine a_move (hr:=?_) | refine a_assign (hr:=?_) | refine a_bin (hr:=?_) | refine a_lenS (hr:=?_) | refine a_lenR (hr:=?_) | refine a_neB (hr:=?_) | refine a_conv (hr:=?_) | refine a_bytesStr (hr:=?_) | refine a_strBytes (hr:=?_) | refine a_sameSl (hr:=?_) | refine a_sliceArr (hr:=?_) | refine a_neS (hr:=?_) | refine a_sliceS (hr:=?_) | refine a_sliceR (hr:=?_) | refine a_minC (hr:=?_))
 | fail)
      all_goals first
        | exact absurd (by assumption) hne
        | (((refine zzr hQ ?_)); exact zzd)
end Go.Proofs.Ytejeemhenoobjaa.Asl

namespace Go.Proofs.Ytejeemhenoobjaa.Asl
open Go Go.RowKit
open Go.Proofs.Ytejeemhenoobjaa.Errs (EV)
set_option linter.unusedVariables false
set_option linter.unusedSimpArgs false
set_option maxRecDepth 100000
set_option maxHeartbeats 8000000
abbrev headT : ByteArray := ⟨#[104, 101, 97, 100]⟩
abbrev nodeT : ByteArray := ⟨#[110, 111, 100, 101]⟩
abbrev flowT : ByteArray := ⟨#[102, 108, 111, 119]⟩
/-- What is wrong, as an error. -/
def errK : TkE → Option EV
  | .ok => none
  | .at_ 0 _ c => some (.wrap headT (.code c))
  | .at_ 1 _ c => some (.wrap (nodeT ++ ⟨#[115]⟩) (.code c))
  | .at_ 2 i c => some (.wrap (placeT nodeT i) (.code c))
  | .at_ 3 _ c => some (.wrap (flowT ++ ⟨#[115]⟩) (.code c))
  | .at_ _ i c => some (.wrap (placeT flowT i) (.code c))
  | .rest => some (.code 10)
@[simp] theorem toNat_3 (n : Nat) : ((n : Int) + 1 + 1 + 1).toNat = n + 1 + 1 + 1 := by omega
theorem Fin.zD {h : Hp} {s y : AV} : Fin h (.tup [.agg [s, .raw (.slice none 0 0), .raw (.slice none 0 0)], y]) h (.tup [.agg [s, .sl 8 [], .sl 4 []], y]) := Fin.imp fun C v hv => by
  cases hv with
  | tup hv => cases hv with
    | cons h0 h1 => cases h0 with
      | agg h0 => cases h0 with
        | cons a h0 => cases h0 with
          | cons b h0 => cases h0 with
            | cons c h0 => cases b with
              | one b _ => cases c with
                | one c _ =>
                  rw [RV.raw_eq b, RV.raw_eq c]
                  exact .tup (.cons (.agg (.cons a (.cons (.one .sl0 rfl) (.cons (.one .sl0 rfl) h0)))) h1)
/-- What the program reads, step by step. -/
def tkQ (l : List Int) : List NodeV × RSt × Option EV := listN nodeT 40 (sT 128 (l.drop 3, 0)).2 (atE none headT (sT 128 (l.drop 3, 0)).2.2)
def endW (nm : ByteArray) (ns : List NodeV) (f : List FlowV × RSt × Option EV) : DefV × Option EV := match f.2.2 with
  | some y => (DefV.z, some y)
  | none => if endE f.2.1.1 f.2.1.2 = 0 then (⟨nm, ns, f.1⟩, none) else (DefV.z, some (.code (endE f.2.1.1 f.2.1.2)))
def flW (q : List NodeV × RSt × Option EV) : List FlowV × RSt × Option EV := match q.2.2 with
  | none => listF flowT 80 q.2.1 none
  | some y => ([], q.2.1, some y)
def takeW (l : List Int) : DefV × Option EV := if headE l ≠ 0 then (DefV.z, some (.wrap headT (.code (headE l)))) else endW (sT 128 (l.drop 3, 0)).1 (tkQ l).1 (flW (tkQ l))
theorem c_wTake (l : List Int) (hB : IsB l) (hl : l.length ≤ 140737488351232) : CallD Try.prog 11 [.sl 1 (u8s l)] noHeap (.tup [defAV (takeW l).1, errO (takeW l).2]) noHeap := by
  have q := c_head l hB (by omega)
  by_cases h0 : headE l = 0
  · obtain ⟨t, rfl⟩ : ∃ t, l = magicL ++ t := ⟨_, head_0 h0⟩
    rw [h0] at q
    have hBt : IsB t := (isB_app.1 hB).2
    have htl : t.length ≤ 140737488351232 := by rw [List.length_append] at hl; omega
    have r1 := c_Read t htl
    have hat : At t 0 t := ⟨Nat.zero_le _, rfl, hBt, by omega⟩
    rw [show takeW (magicL ++ t) = endW (sT 128 (t, 0)).1 (listN nodeT 40 (sT 128 (t, 0)).2 (atE none headT (sT 128 (t, 0)).2.2)).1 (flW (listN nodeT 40 (sT 128 (t, 0)).2 (atE none headT (sT 128 (t, 0)).2.2))) from if_neg (by rw [h0]; simp)]
    rw [show u8s (magicL ++ t) = .raw (.int .u8 98) :: .raw (.int .u8 112) :: .raw (.int .u8 49) :: u8s t by simp [magicL, u8s]] at q ⊢
    obtain ⟨a1, g1, k1⟩ := c_wrtext hat 0 none
    have k2 := c_Err t a1 (sT 128 (t, 0)).2.2
    have k3 := c_fails none headT (sT 128 (t, 0)).2.2 t a1 (sT 128 (t, 0)).2.2
    obtain ⟨a2, g2, k4⟩ := c_wlistN g1 (sT 128 (t, 0)).2.2 (atE none headT (sT 128 (t, 0)).2.2) nodeT (by decide) 40 (by omega)
    clear hB hl h0 hat
    generalize sT 128 (t, 0) = s1 at *
    obtain ⟨nm, l1, e1⟩ := s1
    simp only at *
    generalize atE none headT e1 = x1 at *
    generalize listN nodeT 40 (l1, e1) x1 = Q1 at *
    obtain ⟨ns, ⟨l2, e2⟩, x2⟩ := Q1
    simp only at *
    refine zzg (nt := 75) (rs := [.cell 2 25, .tmp 3]) Try.func11 ?_; intro Q hQ hW
    repeat' (first
 | (with_reducible refine run_n ?_; with_reducible first | refine hK _ _ (by simp) ?_ | refine hK _ _ ?_; clear hK K)
 | (refine zzc ?_)
 | (with_reducible refine awp_regT (by kernel_rfl) ?_; intro K hK)
 | (with_reducible refine awp_regAM (id := 11) [(48, some 20), (52, some 20)] mixed (by kernel_rfl) (by kernel_rfl) ?_; intro K hK)
 | (with_reducible first | refine a_move (hr:=?_) | refine a_assign (hr:=?_) | refine a_load (hr:=?_) | refine a_fieldAddr (hr:=?_) | refine a_nilCheck (hr:=?_) | refine a_bin (hr:=?_) | refine a_pick (hr:=?_) | refine a_store (hr:=?_) | refine a_box (hr:=?_) | refine a_alloc (hr:=?_) | refine a_makeIf (hr:=?_) | refine a_makeFunc (hr:=?_) | refine a_eqI (hr:=?_) | refine a_neI (hr:=?_) | refine a_eqB (hr:=?_) | refine a_neB (hr:=?_) | refine a_sliceArr (hr:=?_) | refine a_eqS (hr:=?_) | refine a_neS (hr:=?_) | refine a_sliceS (hr:=?_) | refine a_sliceR (hr:=?_) | refine a_build (hr:=?_) | refine a_buildSlice (hr:=?_) | refine a_callF (hcall := q) (hr:=?_) | refine a_callB (hcall := r1) (hr:=?_) | refine a_gT (hr:=?_) | refine a_gF (hr:=?_) | refine a_gU (hr:=?_))
 | (with_reducible refine a_gB (hT := ?_) (hF := ?_) <;> intro hb <;> (try simp at hb) <;> (try contradiction) <;> (try subst hb) <;> (try omega))
 | fail)
    refine a_cond (ht := ?_) (hf := ?_) <;> intro hb <;> (try simp at hb) <;> (try contradiction) <;> (try omega)
    repeat' (first
 | (with_reducible refine run_n ?_; with_reducible first | refine hK _ _ (by simp) ?_ | refine hK _ _ ?_; clear hK K)
 | (refine zzc ?_)
 | (with_reducible refine a_cond (ht := ?_) (hf := ?_) <;> intro hb <;> (try simp at hb) <;> (try contradiction) <;> (try subst hb) <;> (try omega))
 | (with_reducible first | refine a_move (hr:=?_) | refine a_assign (hr:=?_) | refine a_load (hr:=?_) | refine a_fieldAddr (hr:=?_) | refine a_nilCheck (hr:=?_) | refine a_bin (hr:=?_) | refine a_pick (hr:=?_) | refine a_store (hr:=?_) | refine a_box (hr:=?_) | refine a_alloc (hr:=?_) | refine a_makeIf (hr:=?_) | refine a_makeFunc (hr:=?_) | refine a_eqI (hr:=?_) | refine a_neI (hr:=?_) | refine a_eqB (hr:=?_) | refine a_neB (hr:=?_) | refine a_sliceArr (hr:=?_) | refine a_eqS (hr:=?_) | refine a_neS (hr:=?_) | refine a_sliceS (hr:=?_) | refine a_sliceR (hr:=?_) | refine a_build (hr:=?_) | refine a_buildSlice (hr:=?_) | refine a_gT (hr:=?_) | refine a_gF (hr:=?_) | refine a_gU (hr:=?_))
 | (with_reducible refine a_gB (hT := ?_) (hF := ?_) <;> intro hb <;> (try simp at hb) <;> (try contradiction) <;> (try subst hb) <;> (try omega))
 | fail)
    (with_reducible refine awp_regT (by kernel_rfl) ?_; intro K hK)
    repeat' (first
 | (with_reducible refine run_n ?_; with_reducible first | refine hK _ _ (by simp) ?_ | refine hK _ _ ?_; clear hK K)
 | (refine zzc ?_)
 | (with_reducible refine a_cond (ht := ?_) (hf := ?_) <;> intro hb <;> (try simp at hb) <;> (try contradiction) <;> (try subst hb) <;> (try omega))
 | (with_reducible first | refine a_move (hr:=?_) | refine a_assign (hr:=?_) | refine a_load (hr:=?_) | refine a_fieldAddr (hr:=?_) | refine a_nilCheck (hr:=?_) | refine a_bin (hr:=?_) | refine a_pick (hr:=?_) | refine a_store (hr:=?_) | refine a_box (hr:=?_) | refine a_alloc (hr:=?_) | refine a_makeIf (hr:=?_) | refine a_makeFunc (hr:=?_) | refine a_eqI (hr:=?_) | refine a_neI (hr:=?_) | refine a_eqB (hr:=?_) | refine a_neB (hr:=?_) | refine a_sliceArr (hr:=?_) | refine a_eqS (hr:=?_) | refine a_neS (hr:=?_) | refine a_sliceS (hr:=?_) | refine a_sliceR (hr:=?_) | refine a_build (hr:=?_) | refine a_buildSlice (hr:=?_) | refine a_callB (hcall := r1) (hr:=?_) | refine a_gT (hr:=?_) | refine a_gF (hr:=?_) | refine a_gU (hr:=?_))
 | (with_reducible refine a_gB (hT := ?_) (hF := ?_) <;> intro hb <;> (try simp at hb) <;> (try contradiction) <;> (try subst hb) <;> (try omega))
 | fail)
    refine AWP.weak (σ2 := ⟨envA [(2, .ptr 2 0), (3, .raw .nilIface), (5, .ptr 90001 0)], hpL [(2, .box (.agg [.raw (.string ⟨#[]⟩), .raw (.slice none 0 0), .raw (.slice none 0 0)])), (18, .box (rdAV t 0 0)), (90001, .box (.agg [.ptr 18 0, .raw .nilIface]))]⟩) (zzx 20 90001) ?_
    cases x2 with
    | some y =>
      repeat' (first
 | (with_reducible refine run_n ?_; with_reducible first | refine hK _ _ (by simp) ?_ | refine hK _ _ ?_; clear hK K)
 | (refine zzc ?_)
 | (with_reducible refine awp_regT (by kernel_rfl) ?_; intro K hK)
 | (with_reducible refine awp_regAM (id := 11) [(48, some 90001), (52, some 90001)] mixed (by kernel_rfl) (by kernel_rfl) ?_; intro K hK)
 | (with_reducible first | refine a_move (hr:=?_) | refine a_assign (hr:=?_) | refine a_load (hr:=?_) | refine a_fieldAddr (hr:=?_) | refine a_nilCheck (hr:=?_) | refine a_bin (hr:=?_) | refine a_pick (hr:=?_) | refine a_store (hr:=?_) | refine a_box (hr:=?_) | refine a_alloc (hr:=?_) | refine a_makeIf (hr:=?_) | refine a_makeFunc (hr:=?_) | refine a_eqI (hr:=?_) | refine a_neI (hr:=?_) | refine a_eqB (hr:=?_) | refine a_neB (hr:=?_) | refine a_sliceArr (hr:=?_) | refine a_eqS (hr:=?_) | refine a_neS (hr:=?_) | refine a_sliceS (hr:=?_) | refine a_sliceR (hr:=?_) | refine a_build (hr:=?_) | refine a_buildSlice (hr:=?_) | refine a_callM (p := 90001) (k := 100000) (q := 18) (hcall := k1) (hr:=?_) | refine a_callP (p := 18) (hcall := k2) (hr:=?_) | refine a_callM (p := 90001) (k := 100000) (q := 18) (hcall := k3) (hr:=?_) | refine a_callM (p := 90001) (k := 100000) (q := 18) (hcall := k4) (hr:=?_) | refine a_gT (hr:=?_) | refine a_gF (hr:=?_) | refine a_gU (hr:=?_))
 | (with_reducible refine a_gB (hT := ?_) (hF := ?_) <;> intro hb <;> (try simp at hb) <;> (try contradiction) <;> (try subst hb) <;> (try omega))
 | fail)
      have k6 := c_End t a2 e2 (by omega) g2.le
      rw [g2.eq] at k6
      have q5 := c_FOf (endE l2 e2)
      have q6 := c_FFirst [some y, ofE (endE l2 e2)] (by simp)
      have q7 := c_IsCode y 10
      generalize ofE (endE l2 e2) = o at q5 q6
      generalize endE l2 e2 = ee at k6 q5
      simp only [errO_some, List.map_cons, List.map_nil, firstE] at q6
      simp only [flW, endW, errO_some] at hQ ⊢
      refine a_cond (ht := ?_) (hf := ?_) <;> intro hb <;> (try simp at hb) <;> (try contradiction) <;> (try omega)
      repeat' (first
 | (with_reducible refine run_n ?_; with_reducible first | refine hK _ _ (by simp) ?_ | refine hK _ _ ?_; clear hK K)
 | (refine zzc ?_)
 | (with_reducible refine a_cond (ht := ?_) (hf := ?_) <;> intro hb <;> (try simp at hb) <;> (try contradiction) <;> (try subst hb) <;> (try omega))
 | (with_reducible first | refine a_move (hr:=?_) | refine a_assign (hr:=?_) | refine a_load (hr:=?_) | refine a_fieldAddr (hr:=?_) | refine a_nilCheck (hr:=?_) | refine a_bin (hr:=?_) | refine a_pick (hr:=?_) | refine a_store (hr:=?_) | refine a_box (hr:=?_) | refine a_alloc (hr:=?_) | refine a_makeIf (hr:=?_) | refine a_makeFunc (hr:=?_) | refine a_eqI (hr:=?_) | refine a_neI (hr:=?_) | refine a_eqB (hr:=?_) | refine a_neB (hr:=?_) | refine a_sliceArr (hr:=?_) | refine a_eqS (hr:=?_) | refine a_neS (hr:=?_) | refine a_sliceS (hr:=?_) | refine a_sliceR (hr:=?_) | refine a_build (hr:=?_) | refine a_buildSlice (hr:=?_) | refine a_gT (hr:=?_) | refine a_gF (hr:=?_) | refine a_gU (hr:=?_))
 | (with_reducible refine a_gB (hT := ?_) (hF := ?_) <;> intro hb <;> (try simp at hb) <;> (try contradiction) <;> (try subst hb) <;> (try omega))
 | fail)
      refine AWP.weak (σ2 := ⟨envA [(2, .ptr 2 0), (3, .raw .nilIface), (5, .ptr 20 0), (6, .ptr 6 0)], hpL [(2, .box (.agg [.raw (.string ⟨#[]⟩), .raw (.slice none 0 0), .raw (.slice none 0 0)])), (6, .box (.agg [.raw (.string nm), .sl 8 (ns.map nodeAV), .raw (.slice none 0 0)])), (18, .box (rdAV t a2 e2)), (20, .box (.agg [.ptr 18 0, errAV y]))]⟩) (zzx 20 90001) ?_
      by_cases hy : y.num = some 10
      · rw [decide_eq_true hy] at q7
        repeat' (first
 | (with_reducible refine run_n ?_; with_reducible first | refine hK _ _ (by simp) ?_ | refine hK _ _ ?_; clear hK K)
 | (refine zzc ?_)
 | (with_reducible refine awp_regT (by kernel_rfl) ?_; intro K hK)
 | (with_reducible refine awp_regCM (id := 11) [(48, some 20), (52, some 20)] [(48, some 20), (52, some 20), (53, some 18), (54, none)] mixed (by kernel_rfl) (by kernel_rfl) (by kernel_rfl) ?_; intro K hK)
 | (with_reducible refine a_cond (ht := ?_) (hf := ?_) <;> intro hb <;> (try simp at hb) <;> (try contradiction) <;> (try subst hb) <;> (try omega))
 | (with_reducible first | refine a_move (hr:=?_) | refine a_assign (hr:=?_) | refine a_load (hr:=?_) | refine a_fieldAddr (hr:=?_) | refine a_nilCheck (hr:=?_) | refine a_bin (hr:=?_) | refine a_pick (hr:=?_) | refine a_store (hr:=?_) | refine a_box (hr:=?_) | refine a_alloc (hr:=?_) | refine a_makeIf (hr:=?_) | refine a_makeFunc (hr:=?_) | refine a_eqI (hr:=?_) | refine a_neI (hr:=?_) | refine a_eqB (hr:=?_) | refine a_neB (hr:=?_) | refine a_sliceArr (hr:=?_) | refine a_eqS (hr:=?_) | refine a_neS (hr:=?_) | refine a_sliceS (hr:=?_) | refine a_sliceR (hr:=?_) | refine a_build (hr:=?_) | refine a_buildSlice (hr:=?_) | refine a_callP (p := 18) (hcall := k6) (hr:=?_) | refine a_call0 (hcall := q5) (hr:=?_) | refine a_callF (hcall := q6) (hr:=?_) | refine a_callF (hcall := q7) (hr:=?_) | refine a_gT (hr:=?_) | refine a_gF (hr:=?_) | refine a_gU (hr:=?_))
 | (with_reducible refine a_gB (hT := ?_) (hF := ?_) <;> intro hb <;> (try simp at hb) <;> (try contradiction) <;> (try subst hb) <;> (try omega))
 | fail)
        all_goals ((refine zzr hQ ?_))
        all_goals (exact (Fin.drop (by simp; exact .r) (by simp)).trans Fin.zD)
      · rw [decide_eq_false hy] at q7
        repeat' (first
 | (with_reducible refine run_n ?_; with_reducible first | refine hK _ _ (by simp) ?_ | refine hK _ _ ?_; clear hK K)
 | (refine zzc ?_)
 | (with_reducible refine awp_regT (by kernel_rfl) ?_; intro K hK)
 | (with_reducible refine awp_regCM (id := 11) [(48, some 20), (52, some 20)] [(48, some 20), (52, some 20), (53, some 18), (54, none)] mixed (by kernel_rfl) (by kernel_rfl) (by kernel_rfl) ?_; intro K hK)
 | (with_reducible refine a_cond (ht := ?_) (hf := ?_) <;> intro hb <;> (try simp at hb) <;> (try contradiction) <;> (try subst hb) <;> (try omega))
 | (with_reducible first | refine a_move (hr:=?_) | refine a_assign (hr:=?_) | refine a_load (hr:=?_) | refine a_fieldAddr (hr:=?_) | refine a_nilCheck (hr:=?_) | refine a_bin (hr:=?_) | refine a_pick (hr:=?_) | refine a_store (hr:=?_) | refine a_box (hr:=?_) | refine a_alloc (hr:=?_) | refine a_makeIf (hr:=?_) | refine a_makeFunc (hr:=?_) | refine a_eqI (hr:=?_) | refine a_neI (hr:=?_) | refine a_eqB (hr:=?_) | refine a_neB (hr:=?_) | refine a_sliceArr (hr:=?_) | refine a_eqS (hr:=?_) | refine a_neS (hr:=?_) | refine a_sliceS (hr:=?_) | refine a_sliceR (hr:=?_) | refine a_build (hr:=?_) | refine a_buildSlice (hr:=?_) | refine a_callP (p := 18) (hcall := k6) (hr:=?_) | refine a_call0 (hcall := q5) (hr:=?_) | refine a_callF (hcall := q6) (hr:=?_) | refine a_callF (hcall := q7) (hr:=?_) | refine a_gT (hr:=?_) | refine a_gF (hr:=?_) | refine a_gU (hr:=?_))
 | (with_reducible refine a_gB (hT := ?_) (hF := ?_) <;> intro hb <;> (try simp at hb) <;> (try contradiction) <;> (try subst hb) <;> (try omega))
 | fail)
        all_goals ((refine zzr hQ ?_))
        all_goals (exact (Fin.drop (by simp; exact .r) (by simp)).trans Fin.zD)
    | none =>
      obtain ⟨a3, g3, k5⟩ := c_wlistF g2 e2 none flowT (by decide) 80 (by omega)
      simp only [flW] at hQ
      generalize listF flowT 80 (l2, e2) none = Q2 at *
      obtain ⟨fs, ⟨l3, e3⟩, x3⟩ := Q2
      simp only at *
      have k6 := c_End t a3 e3 (by omega) g3.le
      rw [g3.eq] at k6
      have q5 := c_FOf (endE l3 e3)
      cases x3 with
      | some y =>
        have q6 := c_FFirst [some y, ofE (endE l3 e3)] (by simp)
        have q7 := c_IsCode y 10
        generalize ofE (endE l3 e3) = o at q5 q6
        generalize endE l3 e3 = ee at k6 q5
        simp only [errO_some, List.map_cons, List.map_nil, firstE] at q6
        simp only [endW, errO_some] at hQ ⊢
        repeat' (first
 | (with_reducible refine run_n ?_; with_reducible first | refine hK _ _ (by simp) ?_ | refine hK _ _ ?_; clear hK K)
 | (refine zzc ?_)
 | (with_reducible refine awp_regT (by kernel_rfl) ?_; intro K hK)
 | (with_reducible refine awp_regAM (id := 11) [(48, some 90001), (52, some 90001)] mixed (by kernel_rfl) (by kernel_rfl) ?_; intro K hK)
 | (with_reducible first | refine a_move (hr:=?_) | refine a_assign (hr:=?_) | refine a_load (hr:=?_) | refine a_fieldAddr (hr:=?_) | refine a_nilCheck (hr:=?_) | refine a_bin (hr:=?_) | refine a_pick (hr:=?_) | refine a_store (hr:=?_) | refine a_box (hr:=?_) | refine a_alloc (hr:=?_) | refine a_makeIf (hr:=?_) | refine a_makeFunc (hr:=?_) | refine a_eqI (hr:=?_) | refine a_neI (hr:=?_) | refine a_eqB (hr:=?_) | refine a_neB (hr:=?_) | refine a_sliceArr (hr:=?_) | refine a_eqS (hr:=?_) | refine a_neS (hr:=?_) | refine a_sliceS (hr:=?_) | refine a_sliceR (hr:=?_) | refine a_build (hr:=?_) | refine a_buildSlice (hr:=?_) | refine a_callM (p := 90001) (k := 100000) (q := 18) (hcall := k1) (hr:=?_) | refine a_callP (p := 18) (hcall := k2) (hr:=?_) | refine a_callM (p := 90001) (k := 100000) (q := 18) (hcall := k3) (hr:=?_) | refine a_callM (p := 90001) (k := 100000) (q := 18) (hcall := k4) (hr:=?_) | refine a_gT (hr:=?_) | refine a_gF (hr:=?_) | refine a_gU (hr:=?_))
 | (with_reducible refine a_gB (hT := ?_) (hF := ?_) <;> intro hb <;> (try simp at hb) <;> (try contradiction) <;> (try subst hb) <;> (try omega))
 | fail)
        refine a_cond (ht := ?_) (hf := ?_) <;> intro hb <;> (try simp at hb) <;> (try contradiction) <;> (try omega)
        repeat' (first
 | (with_reducible refine run_n ?_; with_reducible first | refine hK _ _ (by simp) ?_ | refine hK _ _ ?_; clear hK K)
 | (refine zzc ?_)
 | (with_reducible refine a_cond (ht := ?_) (hf := ?_) <;> intro hb <;> (try simp at hb) <;> (try contradiction) <;> (try subst hb) <;> (try omega))
 | (with_reducible first | refine a_move (hr:=?_) | refine a_assign (hr:=?_) | refine a_load (hr:=?_) | refine a_fieldAddr (hr:=?_) | refine a_nilCheck (hr:=?_) | refine a_bin (hr:=?_) | refine a_pick (hr:=?_) | refine a_store (hr:=?_) | refine a_box (hr:=?_) | refine a_alloc (hr:=?_) | refine a_makeIf (hr:=?_) | refine a_makeFunc (hr:=?_) | refine a_eqI (hr:=?_) | refine a_neI (hr:=?_) | refine a_eqB (hr:=?_) | refine a_neB (hr:=?_) | refine a_sliceArr (hr:=?_) | refine a_eqS (hr:=?_) | refine a_neS (hr:=?_) | refine a_sliceS (hr:=?_) | refine a_sliceR (hr:=?_) | refine a_build (hr:=?_) | refine a_buildSlice (hr:=?_) | refine a_gT (hr:=?_) | refine a_gF (hr:=?_) | refine a_gU (hr:=?_))
 | (with_reducible refine a_gB (hT := ?_) (hF := ?_) <;> intro hb <;> (try simp at hb) <;> (try contradiction) <;> (try subst hb) <;> (try omega))
 | fail)
        (with_reducible refine awp_regT (by kernel_rfl) ?_; intro K hK)
        repeat' (first
 | (with_reducible refine run_n ?_; with_reducible first | refine hK _ _ (by simp) ?_ | refine hK _ _ ?_; clear hK K)
 | (refine zzc ?_)
 | (with_reducible refine a_cond (ht := ?_) (hf := ?_) <;> intro hb <;> (try simp at hb) <;> (try contradiction) <;> (try subst hb) <;> (try omega))
 | (with_reducible first | refine a_move (hr:=?_) | refine a_assign (hr:=?_) | refine a_load (hr:=?_) | refine a_fieldAddr (hr:=?_) | refine a_nilCheck (hr:=?_) | refine a_bin (hr:=?_) | refine a_pick (hr:=?_) | refine a_store (hr:=?_) | refine a_box (hr:=?_) | refine a_alloc (hr:=?_) | refine a_makeIf (hr:=?_) | refine a_makeFunc (hr:=?_) | refine a_eqI (hr:=?_) | refine a_neI (hr:=?_) | refine a_eqB (hr:=?_) | refine a_neB (hr:=?_) | refine a_sliceArr (hr:=?_) | refine a_eqS (hr:=?_) | refine a_neS (hr:=?_) | refine a_sliceS (hr:=?_) | refine a_sliceR (hr:=?_) | refine a_build (hr:=?_) | refine a_buildSlice (hr:=?_) | refine a_callM (p := 90001) (k := 100000) (q := 18) (hcall := k5) (hr:=?_) | refine a_gT (hr:=?_) | refine a_gF (hr:=?_) | refine a_gU (hr:=?_))
 | (with_reducible refine a_gB (hT := ?_) (hF := ?_) <;> intro hb <;> (try simp at hb) <;> (try contradiction) <;> (try subst hb) <;> (try omega))
 | fail)
        refine AWP.weak (σ2 := ⟨envA [(2, .ptr 2 0), (3, .raw .nilIface), (5, .ptr 20 0), (6, .ptr 6 0)], hpL [(2, .box (.agg [.raw (.string ⟨#[]⟩), .raw (.slice none 0 0), .raw (.slice none 0 0)])), (6, .box (.agg [.raw (.string nm), .sl 8 (ns.map nodeAV), .sl 4 (fs.map flowAV)])), (18, .box (rdAV t a3 e3)), (20, .box (.agg [.ptr 18 0, errAV y]))]⟩) (zzx 20 90001) ?_
        by_cases hy : y.num = some 10
        · rw [decide_eq_true hy] at q7
          repeat' (first
 | (with_reducible refine run_n ?_; with_reducible first | refine hK _ _ (by simp) ?_ | refine hK _ _ ?_; clear hK K)
 | (refine zzc ?_)
 | (with_reducible refine awp_regT (by kernel_rfl) ?_; intro K hK)
 | (with_reducible refine awp_regCM (id := 11) [(48, some 20), (52, some 20)] [(48, some 20), (52, some 20), (53, some 18), (54, none)] mixed (by kernel_rfl) (by kernel_rfl) (by kernel_rfl) ?_; intro K hK)
 | (with_reducible refine a_cond (ht := ?_) (hf := ?_) <;> intro hb <;> (try simp at hb) <;> (try contradiction) <;> (try subst hb) <;> (try omega))
 | (with_reducible first | refine a_move (hr:=?_) | refine a_assign (hr:=?_) | refine a_load (hr:=?_) | refine a_fieldAddr (hr:=?_) | refine a_nilCheck (hr:=?_) | refine a_bin (hr:=?_) | refine a_pick (hr:=?_) | refine a_store (hr:=?_) | refine a_box (hr:=?_) | refine a_alloc (hr:=?_) | refine a_makeIf (hr:=?_) | refine a_makeFunc (hr:=?_) | refine a_eqI (hr:=?_) | refine a_neI (hr:=?_) | refine a_eqB (hr:=?_) | refine a_neB (hr:=?_) | refine a_sliceArr (hr:=?_) | refine a_eqS (hr:=?_) | refine a_neS (hr:=?_) | refine a_sliceS (hr:=?_) | refine a_sliceR (hr:=?_) | refine a_build (hr:=?_) | refine a_buildSlice (hr:=?_) | refine a_callP (p := 18) (hcall := k6) (hr:=?_) | refine a_call0 (hcall := q5) (hr:=?_) | refine a_callF (hcall := q6) (hr:=?_) | refine a_callF (hcall := q7) (hr:=?_) | refine a_gT (hr:=?_) | refine a_gF (hr:=?_) | refine a_gU (hr:=?_))
 | (with_reducible refine a_gB (hT := ?_) (hF := ?_) <;> intro hb <;> (try simp at hb) <;> (try contradiction) <;> (try subst hb) <;> (try omega))
 | fail)
          all_goals ((refine zzr hQ ?_))
          all_goals (exact (Fin.drop (by simp; exact .r) (by simp)).trans Fin.zD)
        · rw [decide_eq_false hy] at q7
          repeat' (first
 | (with_reducible refine run_n ?_; with_reducible first | refine hK _ _ (by simp) ?_ | refine hK _ _ ?_; clear hK K)
 | (refine zzc ?_)
 | (with_reducible refine awp_regT (by kernel_rfl) ?_; intro K hK)
 | (with_reducible refine awp_regCM (id := 11) [(48, some 20), (52, some 20)] [(48, some 20), (52, some 20), (53, some 18), (54, none)] mixed (by kernel_rfl) (by kernel_rfl) (by kernel_rfl) ?_; intro K hK)
 | (with_reducible refine a_cond (ht := ?_) (hf := ?_) <;> intro hb <;> (try simp at hb) <;> (try contradiction) <;> (try subst hb) <;> (try omega))
 | (with_reducible first | refine a_move (hr:=?_) | refine a_assign (hr:=?_) | refine a_load (hr:=?_) | refine a_fieldAddr (hr:=?_) | refine a_nilCheck (hr:=?_) | refine a_bin (hr:=?_) | refine a_pick (hr:=?_) | refine a_store (hr:=?_) | refine a_box (hr:=?_) | refine a_alloc (hr:=?_) | refine a_makeIf (hr:=?_) | refine a_makeFunc (hr:=?_) | refine a_eqI (hr:=?_) | refine a_neI (hr:=?_) | refine a_eqB (hr:=?_) | refine a_neB (hr:=?_) | refine a_sliceArr (hr:=?_) | refine a_eqS (hr:=?_) | refine a_neS (hr:=?_) | refine a_sliceS (hr:=?_) | refine a_sliceR (hr:=?_) | refine a_build (hr:=?_) | refine a_buildSlice (hr:=?_) | refine a_callP (p := 18) (hcall := k6) (hr:=?_) | refine a_call0 (hcall := q5) (hr:=?_) | refine a_callF (hcall := q6) (hr:=?_) | refine a_callF (hcall := q7) (hr:=?_) | refine a_gT (hr:=?_) | refine a_gF (hr:=?_) | refine a_gU (hr:=?_))
 | (with_reducible refine a_gB (hT := ?_) (hF := ?_) <;> intro hb <;> (try simp at hb) <;> (try contradiction) <;> (try subst hb) <;> (try omega))
 | fail)
          all_goals ((refine zzr hQ ?_))
          all_goals (exact (Fin.drop (by simp; exact .r) (by simp)).trans Fin.zD)
      | none =>
        have q6 := c_FFirst [none, ofE (endE l3 e3)] (by simp)
        have q7 := c_IsCode (.code (endE l3 e3)) 10
        have q8 := c_FOf 10
        rw [show ofE 10 = some (.code 10) from rfl] at q8
        simp only [endW] at hQ
        repeat' (first
 | (with_reducible refine run_n ?_; with_reducible first | refine hK _ _ (by simp) ?_ | refine hK _ _ ?_; clear hK K)
 | (refine zzc ?_)
 | (with_reducible refine awp_regT (by kernel_rfl) ?_; intro K hK)
 | (with_reducible refine awp_regAM (id := 11) [(48, some 90001), (52, some 90001)] mixed (by kernel_rfl) (by kernel_rfl) ?_; intro K hK)
 | (with_reducible first | refine a_move (hr:=?_) | refine a_assign (hr:=?_) | refine a_load (hr:=?_) | refine a_fieldAddr (hr:=?_) | refine a_nilCheck (hr:=?_) | refine a_bin (hr:=?_) | refine a_pick (hr:=?_) | refine a_store (hr:=?_) | refine a_box (hr:=?_) | refine a_alloc (hr:=?_) | refine a_makeIf (hr:=?_) | refine a_makeFunc (hr:=?_) | refine a_eqI (hr:=?_) | refine a_neI (hr:=?_) | refine a_eqB (hr:=?_) | refine a_neB (hr:=?_) | refine a_sliceArr (hr:=?_) | refine a_eqS (hr:=?_) | refine a_neS (hr:=?_) | refine a_sliceS (hr:=?_) | refine a_sliceR (hr:=?_) | refine a_build (hr:=?_) | refine a_buildSlice (hr:=?_) | refine a_callM (p := 90001) (k := 100000) (q := 18) (hcall := k1) (hr:=?_) | refine a_callP (p := 18) (hcall := k2) (hr:=?_) | refine a_callM (p := 90001) (k := 100000) (q := 18) (hcall := k3) (hr:=?_) | refine a_callM (p := 90001) (k := 100000) (q := 18) (hcall := k4) (hr:=?_) | refine a_gT (hr:=?_) | refine a_gF (hr:=?_) | refine a_gU (hr:=?_))
 | (with_reducible refine a_gB (hT := ?_) (hF := ?_) <;> intro hb <;> (try simp at hb) <;> (try contradiction) <;> (try subst hb) <;> (try omega))
 | fail)
        refine a_cond (ht := ?_) (hf := ?_) <;> intro hb <;> (try simp at hb) <;> (try contradiction) <;> (try omega)
        repeat' (first
 | (with_reducible refine run_n ?_; with_reducible first | refine hK _ _ (by simp) ?_ | refine hK _ _ ?_; clear hK K)
 | (refine zzc ?_)
 | (with_reducible refine a_cond (ht := ?_) (hf := ?_) <;> intro hb <;> (try simp at hb) <;> (try contradiction) <;> (try subst hb) <;> (try omega))
 | (with_reducible first | refine a_move (hr:=?_) | refine a_assign (hr:=?_) | refine a_load (hr:=?_) | refine a_fieldAddr (hr:=?_) | refine a_nilCheck (hr:=?_) | refine a_bin (hr:=?_) | refine a_pick (hr:=?_) | refine a_store (hr:=?_) | refine a_box (hr:=?_) | refine a_alloc (hr:=?_) | refine a_makeIf (hr:=?_) | refine a_makeFunc (hr:=?_) | refine a_eqI (hr:=?_) | refine a_neI (hr:=?_) | refine a_eqB (hr:=?_) | refine a_neB (hr:=?_) | refine a_sliceArr (hr:=?_) | refine a_eqS (hr:=?_) | refine a_neS (hr:=?_) | refine a_sliceS (hr:=?_) | refine a_sliceR (hr:=?_) | refine a_build (hr:=?_) | refine a_buildSlice (hr:=?_) | refine a_gT (hr:=?_) | refine a_gF (hr:=?_) | refine a_gU (hr:=?_))
 | (with_reducible refine a_gB (hT := ?_) (hF := ?_) <;> intro hb <;> (try simp at hb) <;> (try contradiction) <;> (try subst hb) <;> (try omega))
 | fail)
        (with_reducible refine awp_regT (by kernel_rfl) ?_; intro K hK)
        repeat' (first
 | (with_reducible refine run_n ?_; with_reducible first | refine hK _ _ (by simp) ?_ | refine hK _ _ ?_; clear hK K)
 | (refine zzc ?_)
 | (with_reducible refine a_cond (ht := ?_) (hf := ?_) <;> intro hb <;> (try simp at hb) <;> (try contradiction) <;> (try subst hb) <;> (try omega))
 | (with_reducible first | refine a_move (hr:=?_) | refine a_assign (hr:=?_) | refine a_load (hr:=?_) | refine a_fieldAddr (hr:=?_) | refine a_nilCheck (hr:=?_) | refine a_bin (hr:=?_) | refine a_pick (hr:=?_) | refine a_store (hr:=?_) | refine a_box (hr:=?_) | refine a_alloc (hr:=?_) | refine a_makeIf (hr:=?_) | refine a_makeFunc (hr:=?_) | refine a_eqI (hr:=?_) | refine a_neI (hr:=?_) | refine a_eqB (hr:=?_) | refine a_neB (hr:=?_) | refine a_sliceArr (hr:=?_) | refine a_eqS (hr:=?_) | refine a_neS (hr:=?_) | refine a_sliceS (hr:=?_) | refine a_sliceR (hr:=?_) | refine a_build (hr:=?_) | refine a_buildSlice (hr:=?_) | refine a_callM (p := 90001) (k := 100000) (q := 18) (hcall := k5) (hr:=?_) | refine a_gT (hr:=?_) | refine a_gF (hr:=?_) | refine a_gU (hr:=?_))
 | (with_reducible refine a_gB (hT := ?_) (hF := ?_) <;> intro hb <;> (try simp at hb) <;> (try contradiction) <;> (try subst hb) <;> (try omega))
 | fail)
        refine AWP.weak (σ2 := ⟨envA [(2, .ptr 2 0), (3, .raw .nilIface), (5, .ptr 20 0), (6, .ptr 6 0)], hpL [(2, .box (.agg [.raw (.string ⟨#[]⟩), .raw (.slice none 0 0), .raw (.slice none 0 0)])), (6, .box (.agg [.raw (.string nm), .sl 8 (ns.map nodeAV), .sl 4 (fs.map flowAV)])), (18, .box (rdAV t a3 e3)), (20, .box (.agg [.ptr 18 0, .raw .nilIface]))]⟩) (zzx 20 90001) ?_
        generalize endE l3 e3 = ee at *
        by_cases h0 : ee = 0
        · subst h0
          rw [show ofE 0 = none from rfl] at q5 q6
          simp only [errO_none, List.map_cons, List.map_nil, firstE, if_true] at q5 q6 hQ
          repeat' (first
 | (with_reducible refine run_n ?_; with_reducible first | refine hK _ _ (by simp) ?_ | refine hK _ _ ?_; clear hK K)
 | (refine zzc ?_)
 | (with_reducible refine awp_regT (by kernel_rfl) ?_; intro K hK)
 | (with_reducible refine awp_regCM (id := 11) [(48, some 20), (52, some 20)] [(48, some 20), (52, some 20), (53, some 18), (54, none)] mixed (by kernel_rfl) (by kernel_rfl) (by kernel_rfl) ?_; intro K hK)
 | (with_reducible refine a_cond (ht := ?_) (hf := ?_) <;> intro hb <;> (try simp at hb) <;> (try contradiction) <;> (try subst hb) <;> (try omega))
 | (with_reducible first | refine a_move (hr:=?_) | refine a_assign (hr:=?_) | refine a_load (hr:=?_) | refine a_fieldAddr (hr:=?_) | refine a_nilCheck (hr:=?_) | refine a_bin (hr:=?_) | refine a_pick (hr:=?_) | refine a_store (hr:=?_) | refine a_box (hr:=?_) | refine a_alloc (hr:=?_) | refine a_makeIf (hr:=?_) | refine a_makeFunc (hr:=?_) | refine a_eqI (hr:=?_) | refine a_neI (hr:=?_) | refine a_eqB (hr:=?_) | refine a_neB (hr:=?_) | refine a_sliceArr (hr:=?_) | refine a_eqS (hr:=?_) | refine a_neS (hr:=?_) | refine a_sliceS (hr:=?_) | refine a_sliceR (hr:=?_) | refine a_build (hr:=?_) | refine a_buildSlice (hr:=?_) | refine a_callP (p := 18) (hcall := k6) (hr:=?_) | refine a_call0 (hcall := q5) (hr:=?_) | refine a_callF (hcall := q6) (hr:=?_) | refine a_gT (hr:=?_) | refine a_gF (hr:=?_) | refine a_gU (hr:=?_))
 | (with_reducible refine a_gB (hT := ?_) (hF := ?_) <;> intro hb <;> (try simp at hb) <;> (try contradiction) <;> (try subst hb) <;> (try omega))
 | fail)
          all_goals ((refine zzr hQ ?_))
          all_goals (exact zzd)
        · rw [show ofE ee = some (.code ee) from if_neg h0] at q5 q6
          rw [if_neg h0] at hQ
          simp only [errO_none, errO_some, List.map_cons, List.map_nil, firstE] at q5 q6 q8 hQ
          by_cases h1 : ee = 10
          · subst h1
            rw [decide_eq_true (show (EV.code 10).num = some 10 from rfl)] at q7
            repeat' (first
 | (with_reducible refine run_n ?_; with_reducible first | refine hK _ _ (by simp) ?_ | refine hK _ _ ?_; clear hK K)
 | (refine zzc ?_)
 | (with_reducible refine awp_regT (by kernel_rfl) ?_; intro K hK)
 | (with_reducible refine awp_regCM (id := 11) [(48, some 20), (52, some 20)] [(48, some 20), (52, some 20), (53, some 18), (54, none)] mixed (by kernel_rfl) (by kernel_rfl) (by kernel_rfl) ?_; intro K hK)
 | (with_reducible refine a_cond (ht := ?_) (hf := ?_) <;> intro hb <;> (try simp at hb) <;> (try contradiction) <;> (try subst hb) <;> (try omega))
 | (with_reducible first | refine a_move (hr:=?_) | refine a_assign (hr:=?_) | refine a_load (hr:=?_) | refine a_fieldAddr (hr:=?_) | refine a_nilCheck (hr:=?_) | refine a_bin (hr:=?_) | refine a_pick (hr:=?_) | refine a_store (hr:=?_) | refine a_box (hr:=?_) | refine a_alloc (hr:=?_) | refine a_makeIf (hr:=?_) | refine a_makeFunc (hr:=?_) | refine a_eqI (hr:=?_) | refine a_neI (hr:=?_) | refine a_eqB (hr:=?_) | refine a_neB (hr:=?_) | refine a_sliceArr (hr:=?_) | refine a_eqS (hr:=?_) | refine a_neS (hr:=?_) | refine a_sliceS (hr:=?_) | refine a_sliceR (hr:=?_) | refine a_build (hr:=?_) | refine a_buildSlice (hr:=?_) | refine a_callP (p := 18) (hcall := k6) (hr:=?_) | refine a_call0 (hcall := q5) (hr:=?_) | refine a_callF (hcall := q6) (hr:=?_) | refine a_callF (hcall := q7) (hr:=?_) | refine a_call0 (hcall := q8) (hr:=?_) | refine a_gT (hr:=?_) | refine a_gF (hr:=?_) | refine a_gU (hr:=?_))
 | (with_reducible refine a_gB (hT := ?_) (hF := ?_) <;> intro hb <;> (try simp at hb) <;> (try contradiction) <;> (try subst hb) <;> (try omega))
 | fail)
            all_goals ((refine zzr hQ ?_))
            all_goals (exact (Fin.drop (by simp; exact .r) (by simp)).trans Fin.zD)
          · rw [decide_eq_false (show ¬ (EV.code ee).num = some 10 from fun h => h1 (by cases h; rfl))] at q7
            repeat' (first
 | (with_reducible refine run_n ?_; with_reducible first | refine hK _ _ (by simp) ?_ | refine hK _ _ ?_; clear hK K)
 | (refine zzc ?_)
 | (with_reducible refine awp_regT (by kernel_rfl) ?_; intro K hK)
 | (with_reducible refine awp_regCM (id := 11) [(48, some 20), (52, some 20)] [(48, some 20), (52, some 20), (53, some 18), (54, none)] mixed (by kernel_rfl) (by kernel_rfl) (by kernel_rfl) ?_; intro K hK)
 | (with_reducible refine a_cond (ht := ?_) (hf := ?_) <;> intro hb <;> (try simp at hb) <;> (try contradiction) <;> (try subst hb) <;> (try omega))
 | (with_reducible first | refine a_move (hr:=?_) | refine a_assign (hr:=?_) | refine a_load (hr:=?_) | refine a_fieldAddr (hr:=?_) | refine a_nilCheck (hr:=?_) | refine a_bin (hr:=?_) | refine a_pick (hr:=?_) | refine a_store (hr:=?_) | refine a_box (hr:=?_) | refine a_alloc (hr:=?_) | refine a_makeIf (hr:=?_) | refine a_makeFunc (hr:=?_) | refine a_eqI (hr:=?_) | refine a_neI (hr:=?_) | refine a_eqB (hr:=?_) | refine a_neB (hr:=?_) | refine a_sliceArr (hr:=?_) | refine a_eqS (hr:=?_) | refine a_neS (hr:=?_) | refine a_sliceS (hr:=?_) | refine a_sliceR (hr:=?_) | refine a_build (hr:=?_) | refine a_buildSlice (hr:=?_) | refine a_callP (p := 18) (hcall := k6) (hr:=?_) | refine a_call0 (hcall := q5) (hr:=?_) | refine a_callF (hcall := q6) (hr:=?_) | refine a_callF (hcall := q7) (hr:=?_) | refine a_call0 (hcall := q8) (hr:=?_) | refine a_gT (hr:=?_) | refine a_gF (hr:=?_) | refine a_gU (hr:=?_))
 | (with_reducible refine a_gB (hT := ?_) (hF := ?_) <;> intro hb <;> (try simp at hb) <;> (try contradiction) <;> (try subst hb) <;> (try omega))
 | fail)
            all_goals ((refine zzr hQ ?_))
            all_goals (exact (Fin.drop (by simp; exact .r) (by simp)).trans Fin.zD)
  · rw [show takeW l = (DefV.z, some (.wrap headT (.code (headE l)))) from if_pos h0]
    have q1 := c_FOf (headE l)
    rw [show ofE (headE l) = some (.code (headE l)) from if_neg h0] at q1
    have q2 := c_FWrap headT (some (.code (headE l)))
    simp only [Option.map_some, errO_some] at q1 q2 ⊢
    generalize headE l = c at q q1 q2 h0 ⊢
    unfold DefV.z
    refine zzg (nt := 75) (rs := [.cell 2 25, .tmp 3]) Try.func11 ?_; intro Q hQ hW
    repeat' (first
 | (with_reducible refine run_n ?_; with_reducible first | refine hK _ _ (by simp) ?_ | refine hK _ _ ?_; clear hK K)
 | (refine zzc ?_)
 | (with_reducible refine awp_regT (by kernel_rfl) ?_; intro K hK)
 | (with_reducible refine awp_regAM (id := 11) [(48, some 20), (52, some 20)] mixed (by kernel_rfl) (by kernel_rfl) ?_; intro K hK)
 | (with_reducible refine a_cond (ht := ?_) (hf := ?_) <;> intro hb <;> (try simp at hb) <;> (try contradiction) <;> (try subst hb) <;> (try omega))
 | (with_reducible first | refine a_move (hr:=?_) | refine a_assign (hr:=?_) | refine a_load (hr:=?_) | refine a_fieldAddr (hr:=?_) | refine a_nilCheck (hr:=?_) | refine a_bin (hr:=?_) | refine a_pick (hr:=?_) | refine a_store (hr:=?_) | refine a_box (hr:=?_) | refine a_alloc (hr:=?_) | refine a_makeIf (hr:=?_) | refine a_makeFunc (hr:=?_) | refine a_eqI (hr:=?_) | refine a_neI (hr:=?_) | refine a_eqB (hr:=?_) | refine a_neB (hr:=?_) | refine a_sliceArr (hr:=?_) | refine a_eqS (hr:=?_) | refine a_neS (hr:=?_) | refine a_sliceS (hr:=?_) | refine a_sliceR (hr:=?_) | refine a_build (hr:=?_) | refine a_buildSlice (hr:=?_) | refine a_callF (hcall := q) (hr:=?_) | refine a_call0 (hcall := q1) (hr:=?_) | refine a_callF (hcall := q2) (hr:=?_) | refine a_gT (hr:=?_) | refine a_gF (hr:=?_) | refine a_gU (hr:=?_))
 | (with_reducible refine a_gB (hT := ?_) (hF := ?_) <;> intro hb <;> (try simp at hb) <;> (try contradiction) <;> (try subst hb) <;> (try omega))
 | fail)
    all_goals ((refine zzr hQ ?_))
    all_goals (exact (Fin.drop (by simp; exact .r) (by simp)).trans Fin.zD)
end Go.Proofs.Ytejeemhenoobjaa.Asl

namespace Go.Proofs.Ytejeemhenoobjaa.Asl
open Go Go.RowKit
open Go.Proofs.Ytejeemhenoobjaa.Errs (EV)
set_option linter.unusedVariables false
set_option linter.unusedSimpArgs false
set_option maxRecDepth 100000
set_option maxHeartbeats 4000000
theorem flows_e0 : ∀ (k i : Nat) (s : RSt) (out o : List FlowV) (s2 : RSt), s.2 = 0 → flowsS k i s out = (o, none, s2) → s2.2 = 0
  | 0, _, s, out, o, s2, h, e => by
    rw [flowsS] at e
    cases e; exact h
  | k + 1, i, s, out, o, s2, h, e => by
    rw [flowsS] at e
    split at e
    · cases e
    · rename_i hw
      exact flows_e0 k (i + 1) _ _ _ _ (wr_0 (by simpa using hw)).1 e
theorem atE_some (y : EV) (p : ByteArray) (c : Int) : atE (some y) p c = some y := rfl
theorem takeW_eq (l : List Int) : takeW l = ((takeD l).1, errK (takeD l).2) := by
  unfold takeW takeD
  by_cases h0 : headE l ≠ 0
  · rw [if_pos h0, if_pos h0]; rfl
  rw [if_neg h0, if_neg h0]
  unfold tkQ
  generalize sT 128 (l.drop 3, 0) = r
  obtain ⟨nm, s1⟩ := r
  simp only
  by_cases h1 : s1.2 ≠ 0
  · rw [if_pos h1, atE_none, if_neg h1]
    unfold listN
    rw [atE_some, if_neg (by simp)]
    rfl
  rw [if_neg h1, atE_none, if_pos (by simpa using h1)]
  unfold listN
  rw [atE_none]
  generalize sU 40 s1 = u
  obtain ⟨n, s2⟩ := u
  simp only
  by_cases h2 : s2.2 ≠ 0
  · rw [if_pos h2, if_neg h2, if_neg (by simp)]
    rfl
  rw [if_neg h2, if_pos (by simpa using h2)]
  try rw [if_pos rfl]
  generalize nodesS n.toNat 0 s2 [] = q
  obtain ⟨ns, eo, s3⟩ := q
  cases eo with
  | some p => rfl
  | none =>
    simp only [Option.map_none, flW]
    unfold listF
    rw [atE_none]
    generalize sU 80 s3 = v
    obtain ⟨m, s4⟩ := v
    simp only
    by_cases h3 : s4.2 ≠ 0
    · rw [if_pos h3, if_neg h3, if_neg (by simp)]
      rfl
    rw [if_neg h3, if_pos (by simpa using h3)]
    try rw [if_pos rfl]
    have hz := flows_e0 m.toNat 0 s4 []
    generalize flowsS m.toNat 0 s4 [] = w at hz ⊢
    obtain ⟨fs, fo, s5⟩ := w
    cases fo with
    | some p => rfl
    | none =>
      have h5 : s5.2 = 0 := hz _ _ (by simpa using h3) rfl
      simp only [Option.map_none, endW, endE]
      by_cases h6 : s5.1 = []
      · simp [h5, h6, errK]
      · simp [h5, h6, errK]
theorem c_wTakeD (l : List Int) (hB : IsB l) (hl : l.length ≤ 140737488351232) : CallD Try.prog 11 [.sl 1 (u8s l)] noHeap (.tup [defAV (takeD l).1, errO (errK (takeD l).2)]) noHeap := by
  have := c_wTake l hB hl
  rw [takeW_eq] at this
  exact this
end Go.Proofs.Ytejeemhenoobjaa.Asl

namespace Go.Proofs.Ytejeemhenoobjaa.Asl
open Go Go.RowKit
open Go.Proofs.Ytejeemhenoobjaa.Errs (EV)
set_option linter.unusedVariables false
set_option linter.unusedSimpArgs false
set_option maxRecDepth 100000
set_option maxHeartbeats 8000000
@[simp ↓ high] theorem orow_one {id sz : Nat} {l : List AV} : (orow id sz l).one = true := by unfold orow; split <;> rfl
@[simp ↓ high] theorem orow_size {id sz : Nat} {l : List AV} : (orow id sz l).size = 1 := AV.size_one orow_one
@[simp ↓ high] theorem orow_isAgg {id sz : Nat} {l : List AV} : (orow id sz l).isAgg = false := by unfold orow; split <;> rfl
@[simp ↓ high] theorem orow_get {id sz : Nat} {l : List AV} (n : Nat) (ag : Bool) (off : Nat) : AV.get n ag (orow id sz l) off = if off = 0 ∧ n = 1 ∧ ag = false then some (orow id sz l) else none := get_leaf orow_isAgg n ag off
@[simp ↓ high] theorem orow_set {id sz : Nat} {l : List AV} (n : Nat) (y : AV) (off : Nat) : AV.set n y (orow id sz l) off = if off = 0 ∧ n = 1 ∧ y.one = true then some y else none := set_leaf orow_isAgg n y off
def tkFl (nm : ByteArray) (ns : List NodeV) (q : List FlowV × Option (Nat × Int) × RSt) : DefV × TkE := match q.2.1 with
  | some p => (DefV.z, .at_ 4 p.1 p.2)
  | none => if q.2.2.1 = [] then (⟨nm, ns, q.1⟩, .ok) else (DefV.z, .rest)
def tkNd (nm : ByteArray) (q : List NodeV × Option (Nat × Int) × RSt) : DefV × TkE := match q.2.1 with
  | some p => (DefV.z, .at_ 2 p.1 p.2)
  | none => if (sU 80 q.2.2).2.2 ≠ 0 then (DefV.z, .at_ 3 0 (sU 80 q.2.2).2.2) else tkFl nm q.1 (flowsS (sU 80 q.2.2).1.toNat 0 (sU 80 q.2.2).2 [])
theorem takeD_tk (l : List Int) : takeD l = if headE l ≠ 0 then (DefV.z, .at_ 0 0 (headE l)) else if (sT 128 (l.drop 3, 0)).2.2 ≠ 0 then (DefV.z, .at_ 0 0 (sT 128 (l.drop 3, 0)).2.2) else if (sU 40 (sT 128 (l.drop 3, 0)).2).2.2 ≠ 0 then (DefV.z, .at_ 1 0 (sU 40 (sT 128 (l.drop 3, 0)).2).2.2) else tkNd (sT 128 (l.drop 3, 0)).1 (nodesS (sU 40 (sT 128 (l.drop 3, 0)).2).1.toNat 0 (sU 40 (sT 128 (l.drop 3, 0)).2).2 []) := by
  unfold takeD tkNd
  generalize nodesS (sU 40 (sT 128 (l.drop 3, 0)).2).1.toNat 0 (sU 40 (sT 128 (l.drop 3, 0)).2).2 [] = q
  obtain ⟨ns, _ | ⟨i, c⟩, s⟩ := q
  · simp only
    unfold tkFl
    generalize flowsS (sU 80 s).1.toNat 0 (sU 80 s).2 [] = w
    obtain ⟨fs, _ | ⟨j, d⟩, s2⟩ := w <;> rfl
  · rfl
structure NdI (k : Nat) (s1 : RSt) (i : Nat) (l : List Int) (out : List NodeV) : Prop where
  le : i ≤ k
  go : nodesS (k - i) i (l, 0) out = nodesS k 0 s1 []
  isB : IsB l
  ln : l.length ≤ 4611686018427387903
  len : out.length = i
theorem NdI.next {k : Nat} {s1 : RSt} {i : Nat} {l : List Int} {out : List NodeV} (g : NdI k s1 i l out) (hlt : i < k) (h0 : wrE (nodeS (l, 0)).2.1 (nodeS (l, 0)).2.2.2 = 0) (hB : IsB (nodeS (l, 0)).2.2.1) (hl : (nodeS (l, 0)).2.2.1.length ≤ 4611686018427387903) : NdI k s1 (i + 1) (nodeS (l, 0)).2.2.1 (out ++ [(nodeS (l, 0)).1]) := by
  have hs := g.go
  rw [show k - i = (k - (i + 1)) + 1 by omega, nodesS, if_neg (by simpa using h0)] at hs
  have he := (wr_0 h0).1
  refine ⟨hlt, ?_, hB, hl, by simp [g.len]⟩
  rw [← hs, show (nodeS (l, 0)).2.2 = ((nodeS (l, 0)).2.2.1, 0) from Prod.ext rfl he]
theorem NdI.stop {k : Nat} {s1 : RSt} {i : Nat} {l : List Int} {out : List NodeV} (g : NdI k s1 i l out) (hlt : i < k) (h0 : wrE (nodeS (l, 0)).2.1 (nodeS (l, 0)).2.2.2 ≠ 0) : nodesS k 0 s1 [] = (out ++ [(nodeS (l, 0)).1], some (i, wrE (nodeS (l, 0)).2.1 (nodeS (l, 0)).2.2.2), (nodeS (l, 0)).2.2) := by
  have hs := g.go
  rw [show k - i = (k - (i + 1)) + 1 by omega, nodesS, if_pos h0] at hs
  exact hs.symm
structure FlI (k : Nat) (s1 : RSt) (i : Nat) (l : List Int) (out : List FlowV) : Prop where
  le : i ≤ k
  go : flowsS (k - i) i (l, 0) out = flowsS k 0 s1 []
  isB : IsB l
  ln : l.length ≤ 4611686018427387903
  len : out.length = i
theorem FlI.next {k : Nat} {s1 : RSt} {i : Nat} {l : List Int} {out : List FlowV} (g : FlI k s1 i l out) (hlt : i < k) (h0 : wrE (flowS (l, 0)).2.1 (flowS (l, 0)).2.2.2 = 0) (hB : IsB (flowS (l, 0)).2.2.1) (hl : (flowS (l, 0)).2.2.1.length ≤ 4611686018427387903) : FlI k s1 (i + 1) (flowS (l, 0)).2.2.1 (out ++ [(flowS (l, 0)).1]) := by
  have hs := g.go
  rw [show k - i = (k - (i + 1)) + 1 by omega, flowsS, if_neg (by simpa using h0)] at hs
  have he := (wr_0 h0).1
  refine ⟨hlt, ?_, hB, hl, by simp [g.len]⟩
  rw [← hs, show (flowS (l, 0)).2.2 = ((flowS (l, 0)).2.2.1, 0) from Prod.ext rfl he]
theorem FlI.stop {k : Nat} {s1 : RSt} {i : Nat} {l : List Int} {out : List FlowV} (g : FlI k s1 i l out) (hlt : i < k) (h0 : wrE (flowS (l, 0)).2.1 (flowS (l, 0)).2.2.2 ≠ 0) : flowsS k 0 s1 [] = (out ++ [(flowS (l, 0)).1], some (i, wrE (flowS (l, 0)).2.1 (flowS (l, 0)).2.2.2), (flowS (l, 0)).2.2) := by
  have hs := g.go
  rw [show k - i = (k - (i + 1)) + 1 by omega, flowsS, if_pos h0] at hs
  exact hs.symm
end Go.Proofs.Ytejeemhenoobjaa.Asl

namespace Go.Proofs.Ytejeemhenoobjaa.Asl
open Go Go.RowKit
set_option linter.unusedVariables false
set_option linter.unusedSimpArgs false
set_option maxRecDepth 100000
set_option maxHeartbeats 4000000
abbrev wrAV (n : Nat) (long arg : Bool) : AV := .agg [.ow 200000 1 0 n, .raw (.bool long), .raw (.bool arg)]
abbrev wrH (b : List Int) (long arg : Bool) : Hp := rH 200000 1 (u8s b) (wrAV b.length long arg)
theorem c_bit (b : Bool) : CallD Try.prog 15 [.raw (.bool b)] noHeap (.raw (.int .u8 (bitI b))) noHeap := by
  cases b with
  | true =>
    refine zzg (nt := 4) (rs := [.tmp 2]) Try.func15 ?_; intro Q hQ hW
    repeat' (first
 | (with_reducible refine run_n ?_; with_reducible first | refine hK _ _ (by simp) ?_ | refine hK _ _ ?_; clear hK K)
 | (refine zzc ?_)
 | (with_reducible refine awp_regT (by kernel_rfl) ?_; intro K hK)
 | (with_reducible refine a_cond (ht := ?_) (hf := ?_) <;> intro hb <;> (try simp at hb) <;> (try contradiction) <;> (try subst hb) <;> (try omega))
 | (with_reducible first | refine a_move (hr:=?_) | refine a_assign (hr:=?_))
 | fail)
    all_goals ((refine zzr hQ ?_))
    all_goals (exact zzd)
  | false =>
    refine zzg (nt := 4) (rs := [.tmp 2]) Try.func15 ?_; intro Q hQ hW
    repeat' (first
 | (with_reducible refine run_n ?_; with_reducible first | refine hK _ _ (by simp) ?_ | refine hK _ _ ?_; clear hK K)
 | (refine zzc ?_)
 | (with_reducible refine awp_regT (by kernel_rfl) ?_; intro K hK)
 | (with_reducible refine a_cond (ht := ?_) (hf := ?_) <;> intro hb <;> (try simp at hb) <;> (try contradiction) <;> (try subst hb) <;> (try omega))
 | (with_reducible first | refine a_move (hr:=?_) | refine a_assign (hr:=?_))
 | fail)
    all_goals ((refine zzr hQ ?_))
    all_goals (exact zzd)
theorem c_wtext (b : List Int) (long arg : Bool) (s : ByteArray) (hs : s.size ≤ 1000000) (hb0 : b ≠ []) (hl : b.length ≤ 100000000) : CallG Try.prog 13 [.ptr 100001 0, .raw (.string s)] (wrH b long arg) (.tup []) (wrH (b ++ txtL s) (long || decide (128 < s.size)) arg) := by
  have q := c_WText s (by omega)
  have htl := txtL_len s
  have hne : u8s b ≠ [] := by simpa using hb0
  have htn : txtL s ≠ [] := by
    have := (enc_len 9 s.size).2
    intro h
    rw [show txtL s = enc 9 s.size ++ bytesOf s from rfl, List.append_eq_nil_iff] at h
    rw [h.1] at this; simp at this
  have ht : enc 9 s.size ++ bytesOf s = txtL s := rfl
  rw [ht] at q
  generalize txtL s = t at q htl htn ⊢
  clear ht
  by_cases h128 : 128 < s.size
  · rw [decide_eq_true h128, Bool.or_true]
    have hd : decide ((128 : Int) < s.size) = true := decide_eq_true (by omega)
    refine calls_goG (nt := 26) (rs := []) Try.func13 rfl rfl rfl (by simp) hbig_rH ?_; intro Q hQ hW
    unfold wrH; rw [rH_ne hne]
    cases long with
    | true =>
      repeat' (first
 | (with_reducible refine run_n ?_; with_reducible first | refine hK _ _ (by simp) ?_ | refine hK _ _ ?_; clear hK K)
 | (refine zzc ?_)
 | (with_reducible refine awp_regT (by kernel_rfl) ?_; intro K hK)
 | (with_reducible refine awp_regAM (id := 1) [(19, some 100001), (25, some 100001)] mixed (by kernel_rfl) (by kernel_rfl) ?_; intro K hK)
 | (with_reducible refine a_cond (ht := ?_) (hf := ?_) <;> intro hb <;> (try simp at hb) <;> (try contradiction) <;> (try subst hb) <;> (try omega))
 | (with_reducible first | refine a_move (hr:=?_) | refine a_load (hr:=?_) | refine a_fieldAddr (hr:=?_) | refine a_nilCheck (hr:=?_) | refine a_bin (hr:=?_) | refine a_lenS (hr:=?_) | refine a_lenR (hr:=?_) | refine a_pick (hr:=?_) | refine a_store (hr:=?_) | refine a_append (hr:=?_) | refine a_append0 (hr:=?_) | refine a_appendX (hr:=?_) | refine a_callN (hcall := q) (hr:=?_) | refine a_gT (hr:=?_) | refine a_gF (hr:=?_) | refine a_gU (hr:=?_))
 | (with_reducible refine a_gB (hT := ?_) (hF := ?_) <;> intro hb <;> (try simp at hb) <;> (try contradiction) <;> (try subst hb) <;> (try omega))
 | fail)
      all_goals ((refine hQ _ _ _ _ (by first | exact .inr rfl | exact .inl rfl) (by simp; exact .r) (by simp; exact .r) ?_))
      all_goals (try rw [hd])
      all_goals (exact FinG.new (n := 23) (hXw := by simp [hb0]; exact .r))
    | false =>
      repeat' (first
 | (with_reducible refine run_n ?_; with_reducible first | refine hK _ _ (by simp) ?_ | refine hK _ _ ?_; clear hK K)
 | (refine zzc ?_)
 | (with_reducible refine awp_regT (by kernel_rfl) ?_; intro K hK)
 | (with_reducible refine awp_regAM (id := 1) [(19, some 100001), (25, some 100001)] mixed (by kernel_rfl) (by kernel_rfl) ?_; intro K hK)
 | (with_reducible refine a_cond (ht := ?_) (hf := ?_) <;> intro hb <;> (try simp at hb) <;> (try contradiction) <;> (try subst hb) <;> (try omega))
 | (with_reducible first | refine a_move (hr:=?_) | refine a_load (hr:=?_) | refine a_fieldAddr (hr:=?_) | refine a_nilCheck (hr:=?_) | refine a_bin (hr:=?_) | refine a_lenS (hr:=?_) | refine a_lenR (hr:=?_) | refine a_pick (hr:=?_) | refine a_store (hr:=?_) | refine a_append (hr:=?_) | refine a_append0 (hr:=?_) | refine a_appendX (hr:=?_) | refine a_callN (hcall := q) (hr:=?_) | refine a_gT (hr:=?_) | refine a_gF (hr:=?_) | refine a_gU (hr:=?_))
 | (with_reducible refine a_gB (hT := ?_) (hF := ?_) <;> intro hb <;> (try simp at hb) <;> (try contradiction) <;> (try subst hb) <;> (try omega))
 | fail)
      all_goals ((refine hQ _ _ _ _ (by first | exact .inr rfl | exact .inl rfl) (by simp; exact .r) (by simp; exact .r) ?_))
      all_goals (try rw [hd])
      all_goals (exact FinG.new (n := 23) (hXw := by simp [hb0]; exact .r))
  · rw [decide_eq_false h128, Bool.or_false]
    have hd : decide ((128 : Int) < s.size) = false := decide_eq_false (by omega)
    refine calls_goG (nt := 26) (rs := []) Try.func13 rfl rfl rfl (by simp) hbig_rH ?_; intro Q hQ hW
    unfold wrH; rw [rH_ne hne]
    cases long with
    | true =>
      repeat' (first
 | (with_reducible refine run_n ?_; with_reducible first | refine hK _ _ (by simp) ?_ | refine hK _ _ ?_; clear hK K)
 | (refine zzc ?_)
 | (with_reducible refine awp_regT (by kernel_rfl) ?_; intro K hK)
 | (with_reducible refine awp_regAM (id := 1) [(19, some 100001), (25, some 100001)] mixed (by kernel_rfl) (by kernel_rfl) ?_; intro K hK)
 | (with_reducible refine a_cond (ht := ?_) (hf := ?_) <;> intro hb <;> (try simp at hb) <;> (try contradiction) <;> (try subst hb) <;> (try omega))
 | (with_reducible first | refine a_move (hr:=?_) | refine a_load (hr:=?_) | refine a_fieldAddr (hr:=?_) | refine a_nilCheck (hr:=?_) | refine a_bin (hr:=?_) | refine a_lenS (hr:=?_) | refine a_lenR (hr:=?_) | refine a_pick (hr:=?_) | refine a_store (hr:=?_) | refine a_append (hr:=?_) | refine a_append0 (hr:=?_) | refine a_appendX (hr:=?_) | refine a_callN (hcall := q) (hr:=?_) | refine a_gT (hr:=?_) | refine a_gF (hr:=?_) | refine a_gU (hr:=?_))
 | (with_reducible refine a_gB (hT := ?_) (hF := ?_) <;> intro hb <;> (try simp at hb) <;> (try contradiction) <;> (try subst hb) <;> (try omega))
 | fail)
      all_goals ((refine hQ _ _ _ _ (by first | exact .inr rfl | exact .inl rfl) (by simp; exact .r) (by simp; exact .r) ?_))
      all_goals (try rw [hd])
      all_goals (exact FinG.new (n := 23) (hXw := by simp [hb0]; exact .r))
    | false =>
      repeat' (first
 | (with_reducible refine run_n ?_; with_reducible first | refine hK _ _ (by simp) ?_ | refine hK _ _ ?_; clear hK K)
 | (refine zzc ?_)
 | (with_reducible refine awp_regT (by kernel_rfl) ?_; intro K hK)
 | (with_reducible refine awp_regAM (id := 1) [(19, some 100001), (25, some 100001)] mixed (by kernel_rfl) (by kernel_rfl) ?_; intro K hK)
 | (with_reducible refine a_cond (ht := ?_) (hf := ?_) <;> intro hb <;> (try simp at hb) <;> (try contradiction) <;> (try subst hb) <;> (try omega))
 | (with_reducible first | refine a_move (hr:=?_) | refine a_load (hr:=?_) | refine a_fieldAddr (hr:=?_) | refine a_nilCheck (hr:=?_) | refine a_bin (hr:=?_) | refine a_lenS (hr:=?_) | refine a_lenR (hr:=?_) | refine a_pick (hr:=?_) | refine a_store (hr:=?_) | refine a_append (hr:=?_) | refine a_append0 (hr:=?_) | refine a_appendX (hr:=?_) | refine a_callN (hcall := q) (hr:=?_) | refine a_gT (hr:=?_) | refine a_gF (hr:=?_) | refine a_gU (hr:=?_))
 | (with_reducible refine a_gB (hT := ?_) (hF := ?_) <;> intro hb <;> (try simp at hb) <;> (try contradiction) <;> (try subst hb) <;> (try omega))
 | fail)
      all_goals ((refine hQ _ _ _ _ (by first | exact .inr rfl | exact .inl rfl) (by simp; exact .r) (by simp; exact .r) ?_))
      all_goals (try rw [hd])
      all_goals (exact FinG.new (n := 23) (hXw := by simp [hb0]; exact .r))
def numL (n lo hi : Int) : List Int := if n < lo ∨ hi < n then [] else enc 9 (n - lo)
theorem c_wnum (b : List Int) (long arg : Bool) (n lo hi : Int) (hn : -9223372036854775808 ≤ n ∧ n < 9223372036854775808) (hlo : -1 ≤ lo ∧ lo ≤ 0) (hhi : 0 ≤ hi ∧ hi ≤ 1000) (hb0 : b ≠ []) (hl : b.length ≤ 100000000) : CallG Try.prog 14 [.ptr 100001 0, .raw (.int .i64 n), .raw (.int .i64 lo), .raw (.int .i64 hi)] (wrH b long arg) (.tup []) (wrH (b ++ numL n lo hi) long (arg || decide (n < lo ∨ hi < n))) := by
  have hne : u8s b ≠ [] := by simpa using hb0
  unfold numL
  by_cases h1 : n < lo ∨ hi < n
  · rw [if_pos h1, decide_eq_true h1, Bool.or_true, List.append_nil]
    rcases h1 with h1 | h1
    · refine calls_goG (nt := 32) (rs := []) Try.func14 rfl rfl rfl (by simp) hbig_rH ?_; intro Q hQ hW
      unfold wrH; rw [rH_ne hne]
      repeat' (first
 | (with_reducible refine run_n ?_; with_reducible first | refine hK _ _ (by simp) ?_ | refine hK _ _ ?_; clear hK K)
 | (refine zzc ?_)
 | (with_reducible refine awp_regT (by kernel_rfl) ?_; intro K hK)
 | (with_reducible refine awp_regAM (id := 2) [(22, some 100001), (31, some 100001)] mixed (by kernel_rfl) (by kernel_rfl) ?_; intro K hK)
 | (with_reducible refine a_cond (ht := ?_) (hf := ?_) <;> intro hb <;> (try simp at hb) <;> (try contradiction) <;> (try subst hb) <;> (try omega))
 | (with_reducible first | refine a_move (hr:=?_) | refine a_load (hr:=?_) | refine a_fieldAddr (hr:=?_) | refine a_nilCheck (hr:=?_) | refine a_bin (hr:=?_) | refine a_pick (hr:=?_) | refine a_store (hr:=?_) | refine a_conv (hr:=?_) | refine a_bytesStr (hr:=?_) | refine a_strBytes (hr:=?_) | refine a_sameSl (hr:=?_) | refine a_append (hr:=?_) | refine a_append0 (hr:=?_) | refine a_appendX (hr:=?_) | refine a_gT (hr:=?_) | refine a_gF (hr:=?_) | refine a_gU (hr:=?_))
 | (with_reducible refine a_gB (hT := ?_) (hF := ?_) <;> intro hb <;> (try simp at hb) <;> (try contradiction) <;> (try subst hb) <;> (try omega))
 | fail)
      all_goals ((refine hQ _ _ _ _ (by first | exact .inr rfl | exact .inl rfl) (by simp; exact .r) (by simp; exact .r) ?_))
      all_goals (exact FinG.same (hne := hne) (hXw := by simp [rH, hb0]))
    · refine calls_goG (nt := 32) (rs := []) Try.func14 rfl rfl rfl (by simp) hbig_rH ?_; intro Q hQ hW
      unfold wrH; rw [rH_ne hne]
      repeat' (first
 | (with_reducible refine run_n ?_; with_reducible first | refine hK _ _ (by simp) ?_ | refine hK _ _ ?_; clear hK K)
 | (refine zzc ?_)
 | (with_reducible refine awp_regT (by kernel_rfl) ?_; intro K hK)
 | (with_reducible refine awp_regAM (id := 2) [(22, some 100001), (31, some 100001)] mixed (by kernel_rfl) (by kernel_rfl) ?_; intro K hK)
 | (with_reducible refine a_cond (ht := ?_) (hf := ?_) <;> intro hb <;> (try simp at hb) <;> (try contradiction) <;> (try subst hb) <;> (try omega))
 | (with_reducible first | refine a_move (hr:=?_) | refine a_load (hr:=?_) | refine a_fieldAddr (hr:=?_) | refine a_nilCheck (hr:=?_) | refine a_bin (hr:=?_) | refine a_pick (hr:=?_) | refine a_store (hr:=?_) | refine a_conv (hr:=?_) | refine a_bytesStr (hr:=?_) | refine a_strBytes (hr:=?_) | refine a_sameSl (hr:=?_) | refine a_append (hr:=?_) | refine a_append0 (hr:=?_) | refine a_appendX (hr:=?_) | refine a_gT (hr:=?_) | refine a_gF (hr:=?_) | refine a_gU (hr:=?_))
 | (with_reducible refine a_gB (hT := ?_) (hF := ?_) <;> intro hb <;> (try simp at hb) <;> (try contradiction) <;> (try subst hb) <;> (try omega))
 | fail)
      all_goals ((refine hQ _ _ _ _ (by first | exact .inr rfl | exact .inl rfl) (by simp; exact .r) (by simp; exact .r) ?_))
      all_goals (exact FinG.same (hne := hne) (hXw := by simp [rH, hb0]))
  · rw [if_neg h1, decide_eq_false h1, Bool.or_false]
    have q := c_UintT (n - lo) (by omega) (by omega)
    have htl := (enc_len 9 (n - lo)).1
    have htn : enc 9 (n - lo) ≠ [] := by
      have := (enc_len 9 (n - lo)).2
      intro h
      rw [h] at this; simp at this
    generalize enc 9 (n - lo) = t at q htl htn ⊢
    refine calls_goG (nt := 32) (rs := []) Try.func14 rfl rfl rfl (by simp) hbig_rH ?_; intro Q hQ hW
    unfold wrH; rw [rH_ne hne]
    repeat' (first
 | (with_reducible refine run_n ?_; with_reducible first | refine hK _ _ (by simp) ?_ | refine hK _ _ ?_; clear hK K)
 | (refine zzc ?_)
 | (with_reducible refine awp_regT (by kernel_rfl) ?_; intro K hK)
 | (with_reducible refine awp_regAM (id := 2) [(22, some 100001), (31, some 100001)] mixed (by kernel_rfl) (by kernel_rfl) ?_; intro K hK)
 | (with_reducible refine a_cond (ht := ?_) (hf := ?_) <;> intro hb <;> (try simp at hb) <;> (try contradiction) <;> (try subst hb) <;> (try omega))
 | (with_reducible first | refine a_move (hr:=?_) | refine a_load (hr:=?_) | refine a_fieldAddr (hr:=?_) | refine a_nilCheck (hr:=?_) | refine a_bin (hr:=?_) | refine a_pick (hr:=?_) | refine a_store (hr:=?_) | refine a_conv (hr:=?_) | refine a_bytesStr (hr:=?_) | refine a_strBytes (hr:=?_) | refine a_sameSl (hr:=?_) | refine a_append (hr:=?_) | refine a_append0 (hr:=?_) | refine a_appendX (hr:=?_) | refine a_callN (hcall := q) (hr:=?_) | refine a_gT (hr:=?_) | refine a_gF (hr:=?_) | refine a_gU (hr:=?_))
 | (with_reducible refine a_gB (hT := ?_) (hF := ?_) <;> intro hb <;> (try simp at hb) <;> (try contradiction) <;> (try subst hb) <;> (try omega))
 | fail)
    all_goals ((refine hQ _ _ _ _ (by first | exact .inr rfl | exact .inl rfl) (by simp; exact .r) (by simp; exact .r) ?_))
    all_goals (exact FinG.new (n := 29) (hXw := by simp [hb0]; exact .r))
end Go.Proofs.Ytejeemhenoobjaa.Asl

