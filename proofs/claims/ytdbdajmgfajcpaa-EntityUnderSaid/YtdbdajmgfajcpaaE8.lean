/- Chapter 15: the law EntityUnder. -/
import Derived.Test.YtdbdajmgfajcpaaE7
namespace Go.Proofs.Ytdbdajmgfajcpaa.Asl
open Go Go.RowKit
set_option linter.unusedVariables false
set_option linter.unusedSimpArgs false
set_option maxRecDepth 100000
set_option maxHeartbeats 4000000
theorem pre_take {α : Type} [BEq α] [LawfulBEq α] : ∀ (n : Nat) (a b : List α), n ≤ a.length → ((a.take n).isPrefixOf b = true ↔ (a.take n = b.take n ∧ (n ≤ b.length)))
  | 0, a, b, _ => by simp
  | n + 1, [], b, h => by simp at h
  | n + 1, x :: a, [], h => by simp
  | n + 1, x :: a, y :: b, h => by
    have ih := pre_take n a b (by simpa using h)
    simp only [List.take_succ_cons, List.isPrefixOf, Bool.and_eq_true, beq_iff_eq, List.cons.injEq, List.length_cons]
    rw [ih]
    constructor
    · rintro ⟨h1, h2, h3⟩; exact ⟨⟨h1, h2⟩, by omega⟩
    · rintro ⟨⟨h1, h2⟩, h3⟩; exact ⟨h1, h2, by omega⟩
/-- From lo on up to ahead of hi. -/
theorem under_is {k k' : Int} (hk : 0 ≤ k ∧ k < 256) (hk' : 0 ≤ k' ∧ k' < 256) (ts us : List ByteArray) (n : Nat) (hn : n ≤ ts.length) :
    ((!sless (strOfNums (keyb k' us)) (strOfNums (keyb k (ts.take n)))) && (decide (strOfNums (after (keyb k (ts.take n))) = ⟨#[]⟩) || sless (strOfNums (keyb k' us)) (strOfNums (after (keyb k (ts.take n)))))) = decide (k = k' ∧ ts.take n = us.take n ∧ n ≤ us.length) := by
  have hB1 := keyb_isB hk (ts.take n)
  have hB2 := keyb_isB hk' us
  unfold sless
  rw [less_bytes, less_bytes, bytes_of_nums hB1, bytes_of_nums hB2, bytes_of_nums (after_isB hB1)]
  have e0 : decide (strOfNums (after (keyb k (ts.take n))) = ⟨#[]⟩) = (after (keyb k (ts.take n)) == []) := by
    rw [Bool.eq_iff_iff, decide_eq_true_eq, beq_iff_eq, eq_iff, bytes_of_nums (after_isB hB1)]
    rfl
  rw [e0, after_law _ _ hB1 hB2]
  rw [Bool.eq_iff_iff, decide_eq_true_eq, keyb_eq, keyb_eq, mkKey, mkKey]
  simp only [List.isPrefixOf, Bool.and_eq_true, beq_iff_eq]
  have hBt : ∀ l : List ByteArray, ∀ p ∈ l.map bytesOf, IsB p := fun l p hp => by obtain ⟨q, _, rfl⟩ := List.mem_map.1 hp; exact isB_bytes q
  rw [mk_pre _ _ (hBt _) (hBt _), List.map_take, pre_take n _ _ (by simpa using hn)]
  rw [← List.map_take, ← List.map_take, List.length_map]
  constructor
  · rintro ⟨h1, h2, h3⟩; exact ⟨h1, map_bytes_inj h2, h3⟩
  · rintro ⟨h1, h2, h3⟩; exact ⟨h1, by rw [h2], h3⟩
theorem law_EntityUnder (r x : RefV) (m : Int) (hk : 0 ≤ r.k ∧ r.k < 256) (hr : r.ok) (hxk : 0 ≤ x.k ∧ x.k < 256) (hxo : x.ok) (hm0 : -9223372036854775808 ≤ m) (hm1 : m < 9223372036854775808) :
    CallD Try.prog 4 [r.av, x.av, .raw (.int .i64 m)] noHeap (.raw (.bool true)) noHeap := by
  have hsh := c_short r
  have hsx := c_short x
  by_cases hB : shortB r = true ∧ shortB x = true
  · rw [hB.1] at hsh
    rw [hB.2] at hsx
    have hz := shortB_of hB.1
    have hz2 := shortB_of hB.2
    have hrs : r.short := ⟨hr, by omega, by omega, by omega, by omega, hk.1, hk.2⟩
    have hxs : x.short := ⟨hxo, by omega, by omega, by omega, by omega, hxk.1, hxk.2⟩
    have h1 := c_Key x hxs
    have h2 := c_Key r hrs
    by_cases hke : (keyV x).2 = 0 ∧ (keyV r).2 = 0
    · -- both are keys
      have hux : (lay x.k).2 = true ∧ keyV x = (strOfNums (keyb x.k (textsP x)), 0) := by
        have := hke.1
        unfold keyV at this ⊢
        split at this
        · simp at this
        · rename_i hl
          split at this
          · rename_i h3; exact ⟨by simpa using hl, by rw [if_neg hl, if_pos h3]⟩
          · simp at this
      have hur : (lay r.k).2 = true ∧ keyV r = (strOfNums (keyb r.k (textsP r)), 0) := by
        have := hke.2
        unfold keyV at this ⊢
        split at this
        · simp at this
        · rename_i hl
          split at this
          · rename_i h3; exact ⟨by simpa using hl, by rw [if_neg hl, if_pos h3]⟩
          · simp at this
      rw [hux.2] at h1
      rw [hur.2] at h2
      have hks := keyV_size hrs
      rw [hur.2] at hks
      have hkx := keyV_size hxs
      rw [hux.2] at hkx
      have hp1 := c_rParse (strOfNums (keyb r.k (textsP r))) (by simp only at hks; omega)
      have hp2 := c_rParse (strOfNums (keyb x.k (textsP x))) (by simp only at hkx; omega)
      rw [key_parse hk] at hp1
      rw [key_parse hxk] at hp2
      simp only [parseAV] at hp1 hp2
      have hu := c_Under15 r m hrs hm0 hm1
      have hu2 : underV r m = (strOfNums (keyb r.k ((textsP r).take (nth m (textsP r).length))), strOfNums (after (keyb r.k ((textsP r).take (nth m (textsP r).length))))) := by unfold underV; rw [if_neg (by simp [hur.1])]
      rw [hu2] at hu
      have hn : nth m (textsP r).length ≤ (textsP r).length := by unfold nth; omega
      have hn2 : (min (max m 0) ((textsP r).length : Int)).toNat = nth m (textsP r).length := rfl
      have hrel := under_is hk hxk (textsP r) (textsP x) (nth m (textsP r).length) hn
      have hlen : r.k = x.k → (textsP r).length = (textsP x).length := fun e => by simp only [textsP, List.length_map, e]
      have hl5 := (texts_small hrs).1
      have hl6 := (texts_small hxs).1
      have hsame := c_Same ((textsP r).take (nth m (textsP r).length)) ((textsP x).take (nth m (textsP r).length)) (by rw [List.length_take]; omega) (by rw [List.length_take]; omega)
      rw [← hn2] at hsame
      simp only at h1 h2 hu
      generalize strOfNums (keyb r.k ((textsP r).take (nth m (textsP r).length))) = lo at hu hrel
      generalize strOfNums (after (keyb r.k ((textsP r).take (nth m (textsP r).length)))) = hi at hu hrel
      generalize strOfNums (keyb r.k (textsP r)) = kr at h2 hp1
      generalize strOfNums (keyb x.k (textsP x)) = kx at h1 hp2 hrel
      generalize textsP r = ts at *
      generalize textsP x = us at *
      clear hB hz hz2 hrs hxs hr hxo hk hxk hke hux hur hks hkx hu2
      obtain ⟨k, n, y, d, i, t, o, a⟩ := r
      obtain ⟨k', n', y', d', i', t', o', a'⟩ := x
      simp only at hrel hlen hp1 hp2
      by_cases hkk : k = k'
      · subst hkk
        have hlen := hlen rfl
        rw [show decide (k = k ∧ ts.take (nth m ts.length) = us.take (nth m ts.length) ∧ nth m ts.length ≤ us.length) = decide (ts.take (nth m ts.length) = us.take (nth m ts.length)) from decide_eq_decide.2 ⟨fun h => h.2.1, fun h => ⟨rfl, h, by omega⟩⟩] at hrel
        rw [← hn2] at hrel
        generalize decide (ts.take (min (max m 0) (ts.length : Int)).toNat = us.take (min (max m 0) (ts.length : Int)).toNat) = sm at hrel hsame
        have go : ∀ b1 b2 : Bool, sless kx lo = b1 → sless kx hi = b2 → (hi = ⟨#[]⟩ ∨ ¬ hi = ⟨#[]⟩) → CallD Try.prog 4 [refAV k n y d i t o a, refAV k n' y' d' i' t' o' a', .raw (.int .i64 m)] noHeap (.raw (.bool true)) noHeap := by
          intro b1 b2 e1 e2 e3
          rw [e1, e2] at hrel
          rcases e3 with e3 | e3 <;> cases b1 <;> cases b2 <;> simp [e3] at hrel <;> subst hrel
          all_goals (refine calls_go (nt := 100) (rs := [.tmp 6]) Try.func4 rfl rfl rfl (by simp) (by intro id h; simp at h <;> omega) ?_; intro Q hQ hW)
          all_goals (repeat' (first
    | (with_reducible refine run_n ?_; with_reducible first | refine hK _ _ (by simp) ?_ | refine hK _ _ ?_; clear hK K)
    | (with_reducible first | refine awp_seq ?_ | refine then_n ?_ | refine then_r ?_ | refine then_e ?_ | refine awp_skip ?_ | refine awp_label ?_ | refine awp_ret ?_ | refine awp_exit ?_ | refine awp_block ?_ | refine awp_scope ?_ | refine in_n ?_ | refine in_r ?_ | refine in_e ?_ | refine in_ne (by decide) ?_ | refine ng_n ?_ | refine ng_r ?_ | refine ng_e ?_)
    | (with_reducible refine awp_regL 8 mixed (by kernel_rfl) ?_; intro K hK)
    | (with_reducible refine awp_regAL (id := 11) [(72, some 3), (74, some 4)] 8 mixed (by kernel_rfl) (by kernel_rfl) ?_; intro K hK)
    | (with_reducible refine a_cond (ht := ?_) (hf := ?_) <;> intro hb <;> (try simp at hb) <;> (try contradiction) <;> (try subst hb) <;> (try omega))
    | (with_reducible first | refine a_move (hr := ?_) | refine a_assign (hr := ?_) | refine a_load (hr := ?_) | refine a_fieldAddr (hr := ?_) | refine a_bin (hr := ?_) | refine a_lenS (hr := ?_) | refine a_lenR (hr := ?_) | refine a_extract (hr := ?_) | refine a_pick (hr := ?_) | refine a_un (hr := ?_) | refine a_box (hr := ?_) | refine a_eqB (hr := ?_) | refine a_neB (hr := ?_) | refine a_sliceArr (hr := ?_) | refine a_eqS (hr := ?_) | refine a_neS (hr := ?_) | refine a_sliceS (hr := ?_) | refine a_sliceR (hr := ?_) | refine a_minC (hr := ?_) | refine a_maxC (hr := ?_) | refine a_call0 (hcall := c_live) (hr := ?_) | refine a_call0 (hcall := hsh) (hr := ?_) | refine a_call0 (hcall := hsx) (hr := ?_) | refine a_call0 (hcall := h1) (hr := ?_) | refine a_call0 (hcall := h2) (hr := ?_) | refine a_call0 (hcall := hu) (hr := ?_) | refine a_call0 (hcall := hp1) (hr := ?_) | refine a_call0 (hcall := hp2) (hr := ?_) | refine a_callL (hcall := hsame) (hr := ?_) | refine a_gT (hr := ?_) | refine a_gF (hr := ?_) | refine a_gU (hr := ?_))
    | (with_reducible refine a_gB (hT := ?_) (hF := ?_) <;> intro hb <;> (try simp at hb) <;> (try contradiction) <;> (try subst hb) <;> (try omega))
    | fail))
          all_goals (first | (exfalso; simp_all; done) | ((refine hQ _ _ _ _ (by first | exact .inr rfl | exact .inl rfl) (by simp; exact .r) (by simp; exact .r) ?_); exact Fin.drop (by simp; exact .r) (by simp)) | ((refine hQ _ _ _ _ (by first | exact .inr rfl | exact .inl rfl) (by simp; exact .r) (by simp; exact .r) ?_); simp only [e1, e2]; exact Fin.drop (by simp; exact .r) (by simp)))
        exact go _ _ rfl rfl (Classical.em _)
      · rw [show decide (k = k' ∧ ts.take (nth m ts.length) = us.take (nth m ts.length) ∧ nth m ts.length ≤ us.length) = false from decide_eq_false (fun h => hkk h.1)] at hrel
        clear hsame hlen
        have go : ∀ b1 b2 : Bool, sless kx lo = b1 → sless kx hi = b2 → (hi = ⟨#[]⟩ ∨ ¬ hi = ⟨#[]⟩) → CallD Try.prog 4 [refAV k n y d i t o a, refAV k' n' y' d' i' t' o' a', .raw (.int .i64 m)] noHeap (.raw (.bool true)) noHeap := by
          intro b1 b2 e1 e2 e3
          rw [e1, e2] at hrel
          rcases e3 with e3 | e3 <;> cases b1 <;> cases b2 <;> simp [e3] at hrel
          all_goals (refine calls_go (nt := 100) (rs := [.tmp 6]) Try.func4 rfl rfl rfl (by simp) (by intro id h; simp at h <;> omega) ?_; intro Q hQ hW)
          all_goals (repeat' (first
    | (with_reducible refine run_n ?_; with_reducible first | refine hK _ _ (by simp) ?_ | refine hK _ _ ?_; clear hK K)
    | (with_reducible first | refine awp_seq ?_ | refine then_n ?_ | refine then_r ?_ | refine then_e ?_ | refine awp_skip ?_ | refine awp_label ?_ | refine awp_ret ?_ | refine awp_exit ?_ | refine awp_block ?_ | refine awp_scope ?_ | refine in_n ?_ | refine in_r ?_ | refine in_e ?_ | refine in_ne (by decide) ?_ | refine ng_n ?_ | refine ng_r ?_ | refine ng_e ?_)
    | (with_reducible refine awp_regL 8 mixed (by kernel_rfl) ?_; intro K hK)
    | (with_reducible refine awp_regAL (id := 11) [(72, some 3), (74, some 4)] 8 mixed (by kernel_rfl) (by kernel_rfl) ?_; intro K hK)
    | (with_reducible refine a_cond (ht := ?_) (hf := ?_) <;> intro hb <;> (try simp at hb) <;> (try contradiction) <;> (try subst hb) <;> (try omega))
    | (with_reducible first | refine a_move (hr := ?_) | refine a_assign (hr := ?_) | refine a_load (hr := ?_) | refine a_fieldAddr (hr := ?_) | refine a_bin (hr := ?_) | refine a_lenS (hr := ?_) | refine a_lenR (hr := ?_) | refine a_extract (hr := ?_) | refine a_pick (hr := ?_) | refine a_un (hr := ?_) | refine a_box (hr := ?_) | refine a_eqB (hr := ?_) | refine a_neB (hr := ?_) | refine a_sliceArr (hr := ?_) | refine a_eqS (hr := ?_) | refine a_neS (hr := ?_) | refine a_sliceS (hr := ?_) | refine a_sliceR (hr := ?_) | refine a_minC (hr := ?_) | refine a_maxC (hr := ?_) | refine a_call0 (hcall := c_live) (hr := ?_) | refine a_call0 (hcall := hsh) (hr := ?_) | refine a_call0 (hcall := hsx) (hr := ?_) | refine a_call0 (hcall := h1) (hr := ?_) | refine a_call0 (hcall := h2) (hr := ?_) | refine a_call0 (hcall := hu) (hr := ?_) | refine a_call0 (hcall := hp1) (hr := ?_) | refine a_call0 (hcall := hp2) (hr := ?_) | refine a_gT (hr := ?_) | refine a_gF (hr := ?_) | refine a_gU (hr := ?_))
    | (with_reducible refine a_gB (hT := ?_) (hF := ?_) <;> intro hb <;> (try simp at hb) <;> (try contradiction) <;> (try subst hb) <;> (try omega))
    | fail))
          all_goals (first | (exfalso; simp_all; done) | ((refine hQ _ _ _ _ (by first | exact .inr rfl | exact .inl rfl) (by simp; exact .r) (by simp; exact .r) ?_); exact Fin.drop (by simp; exact .r) (by simp)) | ((refine hQ _ _ _ _ (by first | exact .inr rfl | exact .inl rfl) (by simp; exact .r) (by simp; exact .r) ?_); simp only [e1, e2]; exact Fin.drop (by simp; exact .r) (by simp)))
        exact go _ _ rfl rfl (Classical.em _)
    · generalize keyV r = kv at h2 hke
      generalize keyV x = kw at h1 hke
      obtain ⟨ka, ke⟩ := kv
      obtain ⟨ka', ke'⟩ := kw
      simp only at h1 h2 hke
      clear hB hz hz2 hrs hxs hr hxo hk hxk
      obtain ⟨k, n, y, d, i, t, o, a⟩ := r
      obtain ⟨k', n', y', d', i', t', o', a'⟩ := x
      by_cases hk0 : ke' = 0
      · have hk1 : ¬ ke = 0 := fun h => hke ⟨hk0, h⟩
        subst hk0
        clear hke
        refine calls_go (nt := 100) (rs := [.tmp 6]) Try.func4 rfl rfl rfl (by simp) (by intro id h; simp at h <;> omega) ?_; intro Q hQ hW
        repeat' (first
    | (with_reducible refine run_n ?_; with_reducible first | refine hK _ _ (by simp) ?_ | refine hK _ _ ?_; clear hK K)
    | (with_reducible first | refine awp_seq ?_ | refine then_n ?_ | refine then_r ?_ | refine then_e ?_ | refine awp_skip ?_ | refine awp_label ?_ | refine awp_ret ?_ | refine awp_exit ?_ | refine awp_block ?_ | refine awp_scope ?_ | refine in_n ?_ | refine in_r ?_ | refine in_e ?_ | refine in_ne (by decide) ?_ | refine ng_n ?_ | refine ng_r ?_ | refine ng_e ?_)
    | (with_reducible refine awp_regL 8 mixed (by kernel_rfl) ?_; intro K hK)
    | (with_reducible refine awp_regAL (id := 11) [(72, some 3), (74, some 4)] 8 mixed (by kernel_rfl) (by kernel_rfl) ?_; intro K hK)
    | (with_reducible refine a_cond (ht := ?_) (hf := ?_) <;> intro hb <;> (try simp at hb) <;> (try contradiction) <;> (try subst hb) <;> (try omega))
    | (with_reducible first | refine a_move (hr := ?_) | refine a_assign (hr := ?_) | refine a_load (hr := ?_) | refine a_fieldAddr (hr := ?_) | refine a_bin (hr := ?_) | refine a_lenS (hr := ?_) | refine a_lenR (hr := ?_) | refine a_extract (hr := ?_) | refine a_pick (hr := ?_) | refine a_un (hr := ?_) | refine a_box (hr := ?_) | refine a_eqB (hr := ?_) | refine a_neB (hr := ?_) | refine a_sliceArr (hr := ?_) | refine a_eqS (hr := ?_) | refine a_neS (hr := ?_) | refine a_sliceS (hr := ?_) | refine a_sliceR (hr := ?_) | refine a_minC (hr := ?_) | refine a_maxC (hr := ?_) | refine a_call0 (hcall := c_live) (hr := ?_) | refine a_call0 (hcall := hsh) (hr := ?_) | refine a_call0 (hcall := hsx) (hr := ?_) | refine a_call0 (hcall := h1) (hr := ?_) | refine a_call0 (hcall := h2) (hr := ?_) | refine a_gT (hr := ?_) | refine a_gF (hr := ?_) | refine a_gU (hr := ?_))
    | (with_reducible refine a_gB (hT := ?_) (hF := ?_) <;> intro hb <;> (try simp at hb) <;> (try contradiction) <;> (try subst hb) <;> (try omega))
    | fail)
        (refine hQ _ _ _ _ (by first | exact .inr rfl | exact .inl rfl) (by simp; exact .r) (by simp; exact .r) ?_)
        exact Fin.drop (by simp; exact .r) (by simp)
      · clear hke
        refine calls_go (nt := 100) (rs := [.tmp 6]) Try.func4 rfl rfl rfl (by simp) (by intro id h; simp at h <;> omega) ?_; intro Q hQ hW
        repeat' (first
    | (with_reducible refine run_n ?_; with_reducible first | refine hK _ _ (by simp) ?_ | refine hK _ _ ?_; clear hK K)
    | (with_reducible first | refine awp_seq ?_ | refine then_n ?_ | refine then_r ?_ | refine then_e ?_ | refine awp_skip ?_ | refine awp_label ?_ | refine awp_ret ?_ | refine awp_exit ?_ | refine awp_block ?_ | refine awp_scope ?_ | refine in_n ?_ | refine in_r ?_ | refine in_e ?_ | refine in_ne (by decide) ?_ | refine ng_n ?_ | refine ng_r ?_ | refine ng_e ?_)
    | (with_reducible refine awp_regL 8 mixed (by kernel_rfl) ?_; intro K hK)
    | (with_reducible refine awp_regAL (id := 11) [(72, some 3), (74, some 4)] 8 mixed (by kernel_rfl) (by kernel_rfl) ?_; intro K hK)
    | (with_reducible refine a_cond (ht := ?_) (hf := ?_) <;> intro hb <;> (try simp at hb) <;> (try contradiction) <;> (try subst hb) <;> (try omega))
    | (with_reducible first | refine a_move (hr := ?_) | refine a_assign (hr := ?_) | refine a_load (hr := ?_) | refine a_fieldAddr (hr := ?_) | refine a_bin (hr := ?_) | refine a_lenS (hr := ?_) | refine a_lenR (hr := ?_) | refine a_extract (hr := ?_) | refine a_pick (hr := ?_) | refine a_un (hr := ?_) | refine a_box (hr := ?_) | refine a_eqB (hr := ?_) | refine a_neB (hr := ?_) | refine a_sliceArr (hr := ?_) | refine a_eqS (hr := ?_) | refine a_neS (hr := ?_) | refine a_sliceS (hr := ?_) | refine a_sliceR (hr := ?_) | refine a_minC (hr := ?_) | refine a_maxC (hr := ?_) | refine a_call0 (hcall := c_live) (hr := ?_) | refine a_call0 (hcall := hsh) (hr := ?_) | refine a_call0 (hcall := hsx) (hr := ?_) | refine a_call0 (hcall := h1) (hr := ?_) | refine a_call0 (hcall := h2) (hr := ?_) | refine a_gT (hr := ?_) | refine a_gF (hr := ?_) | refine a_gU (hr := ?_))
    | (with_reducible refine a_gB (hT := ?_) (hF := ?_) <;> intro hb <;> (try simp at hb) <;> (try contradiction) <;> (try subst hb) <;> (try omega))
    | fail)
        (refine hQ _ _ _ _ (by first | exact .inr rfl | exact .inl rfl) (by simp; exact .r) (by simp; exact .r) ?_)
        exact Fin.drop (by simp; exact .r) (by simp)
  · clear hr hxo hk hxk
    generalize shortB r = b1 at hsh hB
    generalize shortB x = b2 at hsx hB
    obtain ⟨k, n, y, d, i, t, o, a⟩ := r
    obtain ⟨k', n', y', d', i', t', o', a'⟩ := x
    cases b1 <;> cases b2 <;> simp at hB
    all_goals (refine calls_go (nt := 100) (rs := [.tmp 6]) Try.func4 rfl rfl rfl (by simp) (by intro id h; simp at h <;> omega) ?_; intro Q hQ hW)
    all_goals (repeat' (first
    | (with_reducible refine run_n ?_; with_reducible first | refine hK _ _ (by simp) ?_ | refine hK _ _ ?_; clear hK K)
    | (with_reducible first | refine awp_seq ?_ | refine then_n ?_ | refine then_r ?_ | refine then_e ?_ | refine awp_skip ?_ | refine awp_label ?_ | refine awp_ret ?_ | refine awp_exit ?_ | refine awp_block ?_ | refine awp_scope ?_ | refine in_n ?_ | refine in_r ?_ | refine in_e ?_ | refine in_ne (by decide) ?_ | refine ng_n ?_ | refine ng_r ?_ | refine ng_e ?_)
    | (with_reducible refine awp_regL 8 mixed (by kernel_rfl) ?_; intro K hK)
    | (with_reducible refine awp_regAL (id := 11) [(72, some 3), (74, some 4)] 8 mixed (by kernel_rfl) (by kernel_rfl) ?_; intro K hK)
    | (with_reducible refine a_cond (ht := ?_) (hf := ?_) <;> intro hb <;> (try simp at hb) <;> (try contradiction) <;> (try subst hb) <;> (try omega))
    | (with_reducible first | refine a_move (hr := ?_) | refine a_assign (hr := ?_) | refine a_load (hr := ?_) | refine a_fieldAddr (hr := ?_) | refine a_bin (hr := ?_) | refine a_lenS (hr := ?_) | refine a_lenR (hr := ?_) | refine a_extract (hr := ?_) | refine a_pick (hr := ?_) | refine a_un (hr := ?_) | refine a_box (hr := ?_) | refine a_eqB (hr := ?_) | refine a_neB (hr := ?_) | refine a_sliceArr (hr := ?_) | refine a_eqS (hr := ?_) | refine a_neS (hr := ?_) | refine a_sliceS (hr := ?_) | refine a_sliceR (hr := ?_) | refine a_minC (hr := ?_) | refine a_maxC (hr := ?_) | refine a_call0 (hcall := c_live) (hr := ?_) | refine a_call0 (hcall := hsh) (hr := ?_) | refine a_call0 (hcall := hsx) (hr := ?_) | refine a_gT (hr := ?_) | refine a_gF (hr := ?_) | refine a_gU (hr := ?_))
    | (with_reducible refine a_gB (hT := ?_) (hF := ?_) <;> intro hb <;> (try simp at hb) <;> (try contradiction) <;> (try subst hb) <;> (try omega))
    | fail))
    all_goals ((refine hQ _ _ _ _ (by first | exact .inr rfl | exact .inl rfl) (by simp; exact .r) (by simp; exact .r) ?_); exact Fin.drop (by simp; exact .r) (by simp))
end Go.Proofs.Ytdbdajmgfajcpaa.Asl
