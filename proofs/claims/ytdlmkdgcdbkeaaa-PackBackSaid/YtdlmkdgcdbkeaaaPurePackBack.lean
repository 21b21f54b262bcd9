/- PackBack. -/
import Derived.Test.YtdlmkdgcdbkeaaaZ11
import Derived.Test.YtdlmkdgcdbkeaaaOk
import Derived.Test.YtdlmkdgcdbkeaaaPlive
namespace Go.Proofs.Ytdlmkdgcdbkeaaa.P1
open Go.RowKit Go.Proofs.Ytdlmkdgcdbkeaaa.Z Go.Proofs.YtdlmkdgcdbkeaaaW.PrintWords Go.Proofs.YtdlmkdgcdbkeaaaW.PrintLast Go.Proofs.YtdlmkdgcdbkeaaaW.PrintMore Go.Proofs.Ytdlmkdgcdbkeaaa.PB
set_option linter.unusedVariables false
set_option linter.unusedSimpArgs false
def encT (s : ByteArray) : List Int := enc 9 s.size ++ bytesOf s
theorem ev_join2 (a b : List Int) (h : a.length + b.length < 140737488355328) : Ev (fun k => pack_Join.f k [a, b]) (a ++ b) := by
  refine ev_eq (ev_join [a, b] (by simp) (by simpa using h)) (by simp)
def In64 (l : List Int) : Prop := ∀ n ∈ l, 0 ≤ n ∧ n < 18446744073709551616
def InI (l : List Int) : Prop := ∀ n ∈ l, -9223372036854775808 ≤ n ∧ n ≤ 9223372036854775807
theorem isB_encU {n : Int} (h : 0 ≤ n ∧ n < 18446744073709551616) : IsB (enc 9 n) := enc_isB 9 n h.1 (Int.lt_trans h.2 (by decide))
theorem isB_encT {s : ByteArray} (h : s.size ≤ 140737488351232) : IsB (encT s) := isB_app.2 ⟨isB_encU ⟨by omega, by omega⟩, isB_bytes s⟩
theorem back_l5 (b : List Int) (hb : IsB b) (hg : big b) (t : List ByteArray) (ht : ∀ s ∈ t, s.size ≤ 1000) : ∀ (m i at_ : Nat), i + m = t.length → t.length ≤ 200 → at_ ≤ b.length → b.drop at_ = (t.drop i).flatMap encT → Ev (fun k => conductorlaw01_PackBack.l5 k t (t.length : Int) (i : Int) true b (at_ : Int) 0) true
  | 0, i, at_, hi, hl, ha, hd => by
    refine ev_none (fun k => ?_)
    simp only [conductorlaw01_PackBack.l5]
    rw [show t.drop i = [] from List.drop_of_length_le (by omega)] at hd
    have hlen := congrArg List.length hd
    rw [List.length_drop] at hlen
    simp only [List.flatMap_nil, List.length_nil] at hlen
    rw [if_neg (by omega)]
    unfold pack_Reader_End.f
    rw [err_f]
    simp only [Option.bind_some, if_true]
    rw [left_f b at_ 0 hg ha]
    simp only [Option.bind_some, hlen]
    rw [show ((0 : Nat) : Int) = 0 from rfl]
    simp only [if_true, Option.bind_some]
    rw [left_f b at_ 0 hg ha]
    simp [hlen]
  | m + 1, i, at_, hi, hl, ha, hd => by
    have hg' := hg
    unfold big at hg'
    have hlt : i < t.length := by omega
    have e1 := drop_rdOf ByteArray.empty t i hlt
    obtain ⟨s, hs⟩ : ∃ s, rdOf ByteArray.empty t (i : Int) = s := ⟨_, rfl⟩
    rw [hs] at e1
    have hsz := ht s (List.mem_of_mem_drop (by rw [e1]; exact List.mem_cons_self ..))
    rw [e1, List.flatMap_cons] at hd
    have hd2 : b.drop at_ = enc 9 (s.size : Int) ++ (bytesOf s ++ (t.drop (i + 1)).flatMap encT) := by rw [hd]; unfold encT; rw [List.append_assoc]
    have hdec := dec_at (by omega) (by omega) hd2
    have hL := enc_len 9 (s.size : Int)
    have hlen := congrArg List.length hd2
    rw [List.length_drop, List.length_append, List.length_append, len_bytes] at hlen
    have hT := ev_rText b at_ hb hg ha (s.size : Int) _ _ _ (by omega) hdec (fun _ => by omega)
    rw [if_pos rfl, if_neg (by omega), if_neg (by omega)] at hT
    have hd3 : b.drop (at_ + (enc 9 (s.size : Int)).length) = bytesOf s ++ (t.drop (i + 1)).flatMap encT := by
      rw [← List.drop_drop, hd2, List.drop_left]
    have e2 : strOfNums ((b.drop (at_ + (((enc 9 (s.size : Int)).length : Nat) : Int).toNat)).take ((s.size : Nat) : Int).toNat) = s := by
      rw [Int.toNat_natCast, Int.toNat_natCast, hd3, ← len_bytes s, List.take_left, nums_of_bytes]
    rw [e2] at hT
    refine ev_step _ (fun k => by
      simp only [conductorlaw01_PackBack.l5]
      rw [if_pos (by omega), if_pos (by omega), if_pos (by omega), hs, w64 (by omega) (by omega)]) ?_
    refine Ev.bind hT ?_
    simp only [if_true]
    have := back_l5 b hb hg t ht m (i + 1) (at_ + (enc 9 (s.size : Int)).length + s.size) (by omega) hl (by omega) (by
      rw [← List.drop_drop, hd3, ← len_bytes s, List.drop_left])
    rw [show (at_ : Int) + (((enc 9 (s.size : Int)).length : Nat) : Int) + (s.size : Int) = ((at_ + (enc 9 (s.size : Int)).length + s.size : Nat) : Int) by omega]
    exact this
theorem back_l4 (b : List Int) (hb : IsB b) (hg : big b) (l : List Int) (hl0 : InI l) (t : List ByteArray) (ht : ∀ s ∈ t, s.size ≤ 1000) : ∀ (m i at_ : Nat), i + m = l.length → l.length ≤ 200 → t.length ≤ 200 → at_ ≤ b.length → b.drop at_ = (l.drop i).flatMap (fun n => enc 9 (zig n)) ++ t.flatMap encT → Ev (fun k => conductorlaw01_PackBack.l4 k t l (l.length : Int) (i : Int) true b (at_ : Int) 0) true
  | 0, i, at_, hi, hl, htl, ha, hd => by
    rw [show l.drop i = [] from List.drop_of_length_le (by omega)] at hd
    refine ev_step _ (fun k => by
      simp only [conductorlaw01_PackBack.l4]
      rw [if_neg (by omega)]) ?_
    exact back_l5 b hb hg t ht t.length 0 at_ (by omega) htl ha (by simpa using hd)
  | m + 1, i, at_, hi, hl, htl, ha, hd => by
    have hlt : i < l.length := by omega
    have e1 := drop_rd l i hlt
    obtain ⟨n, hn⟩ : ∃ n, rd l (i : Int) = n := ⟨_, rfl⟩
    rw [hn] at e1
    have hr := hl0 n (List.mem_of_mem_drop (by rw [e1]; exact List.mem_cons_self ..))
    have hz := zig_range hr.1 hr.2
    rw [e1, List.flatMap_cons, List.append_assoc] at hd
    have hlen := congrArg List.length hd
    rw [List.length_drop, List.length_append] at hlen
    have hL := enc_len 9 (zig n)
    have hU := ev_rUint_of b at_ hb hg ha 18446744073709551615 (zig n) _ hz.1 hz.2 (by omega) hd
    refine ev_step _ (fun k => by
      simp only [conductorlaw01_PackBack.l4]
      rw [if_pos (by omega), if_pos (by omega), if_pos (by omega), hn, w64 (by omega) (by omega)]) ?_
    refine Ev.bind (ev_rInt hU hz.1 hz.2) ?_
    simp only [unzig_zig, if_true]
    exact back_l4 b hb hg l hl0 t ht m (i + 1) (at_ + (enc 9 (zig n)).length) (by omega) hl htl (by omega) (by rw [← List.drop_drop, hd, List.drop_left])
theorem back_l3 (b : List Int) (hb : IsB b) (hg : big b) (u : List Int) (hu : In64 u) (l : List Int) (hl0 : InI l) (t : List ByteArray) (ht : ∀ s ∈ t, s.size ≤ 1000) : ∀ (m i at_ : Nat), i + m = u.length → u.length ≤ 200 → l.length ≤ 200 → t.length ≤ 200 → at_ ≤ b.length → b.drop at_ = (u.drop i).flatMap (fun n => enc 9 n) ++ (l.flatMap (fun n => enc 9 (zig n)) ++ t.flatMap encT) → Ev (fun k => conductorlaw01_PackBack.l3 k l t u (u.length : Int) (i : Int) true b (at_ : Int) 0) true
  | 0, i, at_, hi, hl, hll, htl, ha, hd => by
    rw [show u.drop i = [] from List.drop_of_length_le (by omega)] at hd
    refine ev_step _ (fun k => by
      simp only [conductorlaw01_PackBack.l3]
      rw [if_neg (by omega)]) ?_
    exact back_l4 b hb hg l hl0 t ht l.length 0 at_ (by omega) hll htl ha (by simpa using hd)
  | m + 1, i, at_, hi, hl, hll, htl, ha, hd => by
    have hlt : i < u.length := by omega
    have e1 := drop_rd u i hlt
    obtain ⟨n, hn⟩ : ∃ n, rd u (i : Int) = n := ⟨_, rfl⟩
    rw [hn] at e1
    have hr := hu n (List.mem_of_mem_drop (by rw [e1]; exact List.mem_cons_self ..))
    rw [e1, List.flatMap_cons, List.append_assoc] at hd
    have hlen := congrArg List.length hd
    rw [List.length_drop, List.length_append] at hlen
    have hL := enc_len 9 n
    refine ev_step _ (fun k => by
      simp only [conductorlaw01_PackBack.l3]
      rw [if_pos (by omega), if_pos (by omega), if_pos (by omega), hn, w64 (by omega) (by omega)]) ?_
    refine Ev.bind (ev_rUint_of b at_ hb hg ha n n _ hr.1 hr.2 (Int.le_refl _) hd) ?_
    simp only [if_true]
    exact back_l3 b hb hg u hu l hl0 t ht m (i + 1) (at_ + (enc 9 n).length) (by omega) hl hll htl (by omega) (by rw [← List.drop_drop, hd, List.drop_left])
/-- All that is written. -/
def all (u l : List Int) (t : List ByteArray) : List Int := u.flatMap (fun n => enc 9 n) ++ (l.flatMap (fun n => enc 9 (zig n)) ++ t.flatMap encT)
theorem len_flatMap {α : Type} (f : α → List Int) (c : Nat) : ∀ l : List α, (∀ x ∈ l, (f x).length ≤ c) → (l.flatMap f).length ≤ l.length * c
  | [], _ => by simp
  | x :: l, h => by
    rw [List.flatMap_cons, List.length_append, List.length_cons]
    have := len_flatMap f c l (fun y hy => h y (List.mem_cons_of_mem _ hy))
    have := h x (List.mem_cons_self ..)
    rw [Nat.add_mul]; omega
theorem isB_flatMap {α : Type} {f : α → List Int} {l : List α} (h : ∀ x ∈ l, IsB (f x)) : IsB (l.flatMap f) := by
  intro b hb
  obtain ⟨x, hx, hb⟩ := List.mem_flatMap.1 hb
  exact h x hx b hb
theorem take_succ_flatMap {α : Type} (f : α → List Int) (l : List α) (i : Nat) (h : i < l.length) : (l.take (i + 1)).flatMap f = (l.take i).flatMap f ++ f l[i] := by
  rw [List.take_add_one, List.getElem?_eq_getElem h, List.flatMap_append]; simp
theorem lenU (l : List Int) (h : l.length ≤ 200) (g : Int → Int) : (l.flatMap (fun n => enc 9 (g n))).length ≤ 2000 := by
  have := len_flatMap (fun n => enc 9 (g n)) 10 l (fun x _ => (enc_len 9 (g x)).1); omega
theorem back_l2 (u l : List Int) (t : List ByteArray) (hu : In64 u) (hl0 : InI l) (hul : u.length ≤ 200) (hll : l.length ≤ 200) (htl : t.length ≤ 200) (hts : ∀ s ∈ t, s.size ≤ 140737488351232) : ∀ (m i : Nat) (x7 : List Int), i + m = t.length → (∀ s ∈ t.take i, s.size ≤ 1000) → x7 = u.flatMap (fun n => enc 9 n) ++ (l.flatMap (fun n => enc 9 (zig n)) ++ (t.take i).flatMap encT) → Ev (fun k => conductorlaw01_PackBack.l2 k u l t x7 t (t.length : Int) (i : Int)) true
  | 0, i, x7, hi, hs, hx => by
    have h1 := lenU u hul id
    have h2 := lenU l hll zig
    have hsz : ∀ s ∈ t, s.size ≤ 1000 := by rw [List.take_of_length_le (by omega)] at hs; exact hs
    have h3 := len_flatMap encT 1010 t (fun s hs' => by have := enc_len 9 (s.size : Int); have := hsz s hs'; unfold encT; rw [List.length_append, len_bytes]; omega)
    rw [List.take_of_length_le (by omega)] at hx
    simp only [id] at h1
    have hlen : x7.length ≤ 210000 := by rw [hx, List.length_append, List.length_append]; omega
    have hg : big x7 := by unfold big; omega
    have hb : IsB x7 := by
      rw [hx, isB_app, isB_app]
      exact ⟨isB_flatMap (fun n hn => isB_encU (hu n hn)), isB_flatMap (fun n hn => isB_encU (zig_range (hl0 n hn).1 (hl0 n hn).2)), isB_flatMap (fun s hs' => isB_encT (hts s hs'))⟩
    refine ev_step _ (fun k => by
      simp only [conductorlaw01_PackBack.l2]
      rw [if_neg (by omega)]) ?_
    refine Ev.bind (ev_read x7 hg) ?_
    exact back_l3 x7 hb hg u hu l hl0 t hsz u.length 0 0 (by omega) hul hll htl (by omega) (by simpa using hx)
  | m + 1, i, x7, hi, hs, hx => by
    have hlt : i < t.length := by omega
    have hr : rdOf ByteArray.empty t (i : Int) = t[i] := rdOf_nat _ t i hlt
    by_cases hbig : (t[i].size : Int) > 1000
    · refine ev_none (fun k => ?_)
      simp only [conductorlaw01_PackBack.l2]
      rw [if_pos (by omega), if_pos (by omega), if_pos (by omega), hr, if_pos hbig]
    refine ev_step _ (fun k => by
      simp only [conductorlaw01_PackBack.l2]
      rw [if_pos (by omega), if_pos (by omega), if_pos (by omega), hr, if_neg hbig, w64 (by omega) (by omega)]) ?_
    have h1 := lenU u hul id
    have h2 := lenU l hll zig
    have h3 := len_flatMap encT 1010 (t.take i) (fun s hs' => by have := enc_len 9 (s.size : Int); have := hs s hs'; unfold encT; rw [List.length_append, len_bytes]; omega)
    have h4 : (t.take i).length ≤ 200 := by rw [List.length_take]; omega
    simp only [id] at h1
    have hlen : x7.length ≤ 210000 := by rw [hx, List.length_append, List.length_append]; omega
    have h5 := enc_len 9 (t[i].size : Int)
    refine Ev.bind (ev_text t[i] (by omega)) ?_
    refine Ev.bind (ev_join2 x7 _ (by rw [List.length_append, len_bytes]; omega)) ?_
    refine back_l2 u l t hu hl0 hul hll htl hts m (i + 1) _ (by omega) ?_ ?_
    · intro s hs'
      rw [List.take_add_one, List.getElem?_eq_getElem hlt] at hs'
      rcases List.mem_append.1 hs' with hs' | hs'
      · exact hs s hs'
      · have : s = t[i] := by simpa using hs'
        subst this; omega
    · rw [take_succ_flatMap encT t i hlt, hx]; unfold encT; simp only [List.append_assoc]
theorem back_l1 (u l : List Int) (t : List ByteArray) (hu : In64 u) (hl0 : InI l) (hul : u.length ≤ 200) (hll : l.length ≤ 200) (htl : t.length ≤ 200) (hts : ∀ s ∈ t, s.size ≤ 140737488351232) : ∀ (m i : Nat) (x7 : List Int), i + m = l.length → x7 = u.flatMap (fun n => enc 9 n) ++ (l.take i).flatMap (fun n => enc 9 (zig n)) → Ev (fun k => conductorlaw01_PackBack.l1 k u l t x7 l (l.length : Int) (i : Int)) true
  | 0, i, x7, hi, hx => by
    rw [List.take_of_length_le (by omega)] at hx
    refine ev_step _ (fun k => by
      simp only [conductorlaw01_PackBack.l1]
      rw [if_neg (by omega)]) ?_
    exact back_l2 u l t hu hl0 hul hll htl hts t.length 0 x7 (by omega) (by simp) (by rw [hx]; simp)
  | m + 1, i, x7, hi, hx => by
    have hlt : i < l.length := by omega
    have hr : rd l (i : Int) = l[i] := rd_nat l i hlt
    have h1 := lenU u hul id
    have h2 := lenU (l.take i) (by rw [List.length_take]; omega) zig
    simp only [id] at h1
    have hlen : x7.length ≤ 4000 := by rw [hx, List.length_append]; omega
    have hb := hl0 l[i] (List.getElem_mem hlt)
    have h5 := enc_len 9 (zig l[i])
    refine ev_step _ (fun k => by
      simp only [conductorlaw01_PackBack.l1]
      rw [if_pos (by omega), if_pos (by omega), if_pos (by omega), hr, w64 (by omega) (by omega)]) ?_
    refine Ev.bind (ev_int hb.1 hb.2) ?_
    refine Ev.bind (ev_join2 x7 _ (by omega)) ?_
    exact back_l1 u l t hu hl0 hul hll htl hts m (i + 1) _ (by omega) (by rw [take_succ_flatMap _ l i hlt, hx, List.append_assoc])
theorem back_l0 (u l : List Int) (t : List ByteArray) (hu : In64 u) (hl0 : InI l) (hul : u.length ≤ 200) (hll : l.length ≤ 200) (htl : t.length ≤ 200) (hts : ∀ s ∈ t, s.size ≤ 140737488351232) : ∀ (m i : Nat) (x7 : List Int), i + m = u.length → x7 = (u.take i).flatMap (fun n => enc 9 n) → Ev (fun k => conductorlaw01_PackBack.l0 k u l t x7 u (u.length : Int) (i : Int)) true
  | 0, i, x7, hi, hx => by
    rw [List.take_of_length_le (by omega)] at hx
    refine ev_step _ (fun k => by
      simp only [conductorlaw01_PackBack.l0]
      rw [if_neg (by omega)]) ?_
    exact back_l1 u l t hu hl0 hul hll htl hts l.length 0 x7 (by omega) (by rw [hx]; simp)
  | m + 1, i, x7, hi, hx => by
    have hlt : i < u.length := by omega
    have hr : rd u (i : Int) = u[i] := rd_nat u i hlt
    have h1 := lenU (u.take i) (by rw [List.length_take]; omega) id
    simp only [id] at h1
    have hlen : x7.length ≤ 2000 := by rw [hx]; omega
    have hb := hu u[i] (List.getElem_mem hlt)
    have h5 := enc_len 9 u[i]
    refine ev_step _ (fun k => by
      simp only [conductorlaw01_PackBack.l0]
      rw [if_pos (by omega), if_pos (by omega), if_pos (by omega), hr, w64 (by omega) (by omega)]) ?_
    refine Ev.bind (ev_uint hb.1 hb.2) ?_
    refine Ev.bind (ev_join2 x7 _ (by omega)) ?_
    exact back_l0 u l t hu hl0 hul hll htl hts m (i + 1) _ (by omega) (by rw [take_succ_flatMap _ u i hlt, hx])
theorem PackBack' (u l : List Int) (t : List ByteArray) (hu : In64 u) (hl0 : InI l) (hts : ∀ s ∈ t, s.size ≤ 140737488351232) : Ev (fun k => conductorlaw01_PackBack.f k u l t) true := by
  unfold conductorlaw01_PackBack.f
  refine Ev.bind ev_live ?_
  simp only [if_true]
  have live : ∀ x : Bool, x = true → Ev (fun k => conductorlaw01_PackBack.j0 k u l t x) true := by
    rintro x rfl
    refine ev_step _ (fun k => by
      simp only [conductorlaw01_PackBack.j0]
      rw [if_pos (by trivial)]) ?_
    exact Ev.bind ev_live (Ev.now _)
  by_cases h1 : (u.length : Int) > 200
  · simp only [if_pos h1]; exact live _ rfl
  simp only [if_neg h1]
  by_cases h2 : (l.length : Int) > 200
  · simp only [if_pos h2]; exact live _ rfl
  simp only [if_neg h2]
  by_cases h3 : (t.length : Int) > 200
  · exact live _ (decide_eq_true h3)
  rw [decide_eq_false h3]
  refine ev_step _ (fun k => by
    simp only [conductorlaw01_PackBack.j0]
    rw [if_neg (by decide)]) ?_
  exact back_l0 u l t hu hl0 (by omega) (by omega) (by omega) hts u.length 0 [] (by omega) (by simp)
end Go.Proofs.Ytdlmkdgcdbkeaaa.P1
namespace Go.Proofs.Ytdlmkdgcdbkeaaa.Pure
open Go.RowKit Go.Proofs.Ytdlmkdgcdbkeaaa.Z Go.Proofs.YtdlmkdgcdbkeaaaW.PrintWords Go.Proofs.YtdlmkdgcdbkeaaaW.PrintLast Go.Proofs.YtdlmkdgcdbkeaaaW.PrintMore Go.Proofs.Ytdlmkdgcdbkeaaa.PB Go.Proofs.Ytdlmkdgcdbkeaaa.P1
theorem PackBack : ∀ (x0 : List Int) (x1 : List Int) (x2 : List ByteArray), ok43 x0 → ok44 x1 → ok23 x2 → ∃ k, conductorlaw01_PackBack.f k x0 x1 x2 = some true := by
  intro u l t hu hl ht
  obtain ⟨K, h⟩ := PackBack' u l t (fun n hn => wf_u64 (hu.2.2 n hn)) (fun n hn => wf_i64 (hl.2.2 n hn)) ht.2.2
  exact ⟨K, h K (Nat.le_refl _)⟩
end Go.Proofs.Ytdlmkdgcdbkeaaa.Pure
