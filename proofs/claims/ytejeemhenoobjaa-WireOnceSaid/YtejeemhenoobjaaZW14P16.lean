/- Part 16 of what the row leans on: abstract values and states, their rules, and the contracts of the functions. -/
import Derived.Test.YtejeemhenoobjaaZW14P15
namespace Go.Proofs.Ytejeemhenoobjaa.Asl
open Go Go.RowKit
set_option linter.unusedVariables false
set_option linter.unusedSimpArgs false
set_option maxRecDepth 100000
set_option maxHeartbeats 8000000
/-- Ways that meet again. -/
theorem wp_join {P : Program} {nt : Nat} {Q Q' : Exit → St → Prop} {σ : St} {x y : Code} (σ2 : St) (hx : AWP P nt x (Then (fun σ' => Weak σ' σ2) Q') σ) (hy : AWP P nt y Q σ2) : AWP P nt x (Then (fun σ' => AWP P nt y Q σ') Q') σ :=
  hx.mono fun e σ' h => by
    cases e with
    | normal => exact AWP.weak h hy
    | _ => exact h
theorem u8_full {l : List Int} {n : Nat} (h : l.length ≤ n) (x : List Int) : u8s (l.take n ++ x) = u8s (l ++ x) := by rw [List.take_of_length_le h]
theorem orm (a b : Bool) : (a || b) = (match a with | true => true | false => b) := by cases a <;> rfl
/-- What the writer puts of a node, whatever it is. -/
def pnL (b : List Int) (n : NodeV) : List Int := b ++ [n.kd % 256] ++ txtL n.nm ++ numL n.up (-1) 254 ++ txtL n.tx ++ txtL n.ky ++ txtL n.to ++ numL n.at_ (-1) 254 ++ [bitI n.st]
def pfL (b : List Int) (f : FlowV) : List Int := b ++ numL f.fr 0 254 ++ numL f.to 0 254 ++ txtL f.cd ++ [bitI f.el]
theorem num_len (n lo hi : Int) : (numL n lo hi).length ≤ 10 := by
  unfold numL
  split
  · simp
  · exact (enc_len 9 _).1
theorem num_in {n lo hi : Int} (h : ¬ (n < lo ∨ hi < n)) : numL n lo hi = enc 9 (n - lo) := by unfold numL; rw [if_neg h]
structure SmN (n : NodeV) : Prop where
  nm : n.nm.size ≤ 1000
  tx : n.tx.size ≤ 1000
  ky : n.ky.size ≤ 1000
  to : n.to.size ≤ 1000
  kd : -9223372036854775808 ≤ n.kd ∧ n.kd < 9223372036854775808
  up : -9223372036854775808 ≤ n.up ∧ n.up < 9223372036854775808
  at_ : -9223372036854775808 ≤ n.at_ ∧ n.at_ < 9223372036854775808
structure SmF (f : FlowV) : Prop where
  cd : f.cd.size ≤ 1000
  fr : -9223372036854775808 ≤ f.fr ∧ f.fr < 9223372036854775808
  to : -9223372036854775808 ≤ f.to ∧ f.to < 9223372036854775808
structure SmD (d : DefV) : Prop where
  nm : d.nm.size ≤ 1000
  n : ∀ n ∈ d.ns, SmN n
  f : ∀ f ∈ d.fs, SmF f
  ln : d.ns.length ≤ 140737488351232
  lf : d.fs.length ≤ 140737488351232
theorem pnL_len (b : List Int) {n : NodeV} (h : SmN n) : (pnL b n).length ≤ b.length + 5000 ∧ b.length < (pnL b n).length := by
  have a1 := txtL_len n.nm
  have a2 := txtL_len n.tx
  have a3 := txtL_len n.ky
  have a4 := txtL_len n.to
  have a5 := num_len n.up (-1) 254
  have a6 := num_len n.at_ (-1) 254
  obtain ⟨b1, b2, b3, b4, _⟩ := h
  unfold pnL
  generalize txtL n.nm = x1 at *
  generalize txtL n.tx = x2 at *
  generalize txtL n.ky = x3 at *
  generalize txtL n.to = x4 at *
  generalize numL n.up (-1) 254 = x5 at *
  generalize numL n.at_ (-1) 254 = x6 at *
  simp only [List.length_append, List.length_singleton]
  omega
theorem pfL_len (b : List Int) {f : FlowV} (h : SmF f) : (pfL b f).length ≤ b.length + 5000 ∧ b.length < (pfL b f).length := by
  have a1 := txtL_len f.cd
  have a5 := num_len f.fr 0 254
  have a6 := num_len f.to 0 254
  obtain ⟨b1, _⟩ := h
  unfold pfL
  generalize txtL f.cd = x1 at *
  generalize numL f.fr 0 254 = x5 at *
  generalize numL f.to 0 254 = x6 at *
  simp only [List.length_append, List.length_singleton]
  omega
theorem ne_of_lt {l : List Int} {n : Nat} (h : n < l.length) : l ≠ [] := by rintro rfl; simp at h
theorem wrap_u8m (x : Int) : IntKind.wrap .u8 x = x % 256 := by simp [IntKind.wrap, IntKind.bits, IntKind.signed]
/-- A node is put. -/
structure NodeI (d : DefV) (b0 : List Int) (l0 : Bool) (i : Nat) (b : List Int) (long arg : Bool) : Prop where
  le : i ≤ d.ns.length
  eq : b = (d.ns.take i).foldl pnL b0
  lg : long = (l0 || (d.ns.take i).any longN)
  ag : arg = (d.ns.take i).any argN
  sz : b.length ≤ 3000 + 5000 * i
  ne : 0 < b.length
theorem NodeI.next {d : DefV} {b0 : List Int} {l0 : Bool} {i : Nat} {b : List Int} {long arg : Bool} (g : NodeI d b0 l0 i b long arg) (hs : SmD d) {n : NodeV} (hn : d.ns[i]? = some n) : NodeI d b0 l0 (i + 1) (pnL b n) (long || longN n) (arg || argN n) := by
  have hlt := (List.getElem?_eq_some_iff.1 hn).1
  have hx := (List.getElem?_eq_some_iff.1 hn).2
  have ht := List.take_succ_eq_append_getElem hlt
  rw [hx] at ht
  have hl := pnL_len b (hs.n n (List.mem_of_getElem? hn))
  refine ⟨hlt, ?_, ?_, ?_, ?_, ?_⟩
  · rw [ht, List.foldl_append, ← g.eq]; rfl
  · rw [ht, List.any_append, ← Bool.or_assoc, ← g.lg]; simp
  · rw [ht, List.any_append, ← g.ag]; simp
  · have := g.sz; omega
  · have := g.ne; omega
structure FlowI (d : DefV) (b0 : List Int) (l0 a0 : Bool) (i : Nat) (b : List Int) (long arg : Bool) : Prop where
  le : i ≤ d.fs.length
  eq : b = (d.fs.take i).foldl pfL b0
  lg : long = (l0 || (d.fs.take i).any longF)
  ag : arg = (a0 || (d.fs.take i).any argF)
  sz : b.length ≤ 500000 + 5000 * i
  ne : 0 < b.length
theorem FlowI.next {d : DefV} {b0 : List Int} {l0 a0 : Bool} {i : Nat} {b : List Int} {long arg : Bool} (g : FlowI d b0 l0 a0 i b long arg) (hs : SmD d) {f : FlowV} (hn : d.fs[i]? = some f) : FlowI d b0 l0 a0 (i + 1) (pfL b f) (long || longF f) (arg || argF f) := by
  have hlt := (List.getElem?_eq_some_iff.1 hn).1
  have hx := (List.getElem?_eq_some_iff.1 hn).2
  have ht := List.take_succ_eq_append_getElem hlt
  rw [hx] at ht
  have hl := pfL_len b (hs.f f (List.mem_of_getElem? hn))
  refine ⟨hlt, ?_, ?_, ?_, ?_, ?_⟩
  · rw [ht, List.foldl_append, ← g.eq]; rfl
  · rw [ht, List.any_append, ← Bool.or_assoc, ← g.lg]; simp
  · rw [ht, List.any_append, ← Bool.or_assoc, ← g.ag]; simp
  · have := g.sz; omega
  · have := g.ne; omega
@[simp] theorem magic_len : magicL.length = 3 := rfl
/-- The bytes and flags of the writer in the end. -/
def endB (d : DefV) : List Int := d.fs.foldl pfL ((d.ns.foldl pnL (magicL ++ txtL d.nm ++ enc 9 d.ns.length)) ++ enc 9 d.fs.length)
def endP (d : DefV) : AV × AV := if longD d = true then (.raw (.slice none 0 0), .raw (.int .i64 3)) else if argD d = true then (.raw (.slice none 0 0), .raw (.int .i64 1)) else (.sl 1 (u8s (endB d)), .raw (.int .i64 0))
theorem c_PutM (d : DefV) (h : SmD d) (h1 : ¬ (40 < d.ns.length ∨ 80 < d.fs.length)) : CallD Try.prog 8 [defAV d] noHeap (.tup [(endP d).1, (endP d).2]) noHeap := by
  have hnm := h.nm
  have a1 := txtL_len d.nm
  have q1 := c_wtext magicL false false d.nm (by omega) (by simp [magicL]) (by simp [magicL])
  have q2 := c_wnum (magicL ++ txtL d.nm) (false || decide (128 < d.nm.size)) false d.ns.length 0 40 (by omega) (by omega) (by omega) (by simp [magicL]) (by rw [List.length_append, magic_len]; omega)
  rw [decide_eq_false (show ¬ ((d.ns.length : Int) < 0 ∨ 40 < (d.ns.length : Int)) by omega), Bool.or_false, num_in (show ¬ ((d.ns.length : Int) < 0 ∨ 40 < (d.ns.length : Int)) by omega), Int.sub_zero] at q2
  rw [Bool.false_or] at q1 q2
  obtain ⟨RB, hRB⟩ : ∃ x, endB d = x := ⟨_, rfl⟩
  obtain ⟨RP, hRP⟩ : ∃ x, endP d = x := ⟨_, rfl⟩
  rw [hRP]
  have hLD : longD d = (decide (128 < d.nm.size) || d.ns.any longN || d.fs.any longF) := rfl
  have hAD : argD d = (d.ns.any argN || d.fs.any argF) := rfl
  unfold endP at hRP
  rw [hRB] at hRP
  unfold endB at hRB
  generalize longD d = ld at hLD hRP
  generalize argD d = ad at hAD hRP
  generalize decide (128 < d.nm.size) = l0 at q1 q2 hLD
  have hbl : (magicL ++ txtL d.nm).length ≤ 1100 ∧ 0 < (magicL ++ txtL d.nm).length := by rw [List.length_append, magic_len]; omega
  generalize magicL ++ txtL d.nm = bb at q1 q2 hRB hbl
  have hb0l : (bb ++ enc 9 d.ns.length).length ≤ 3000 ∧ 0 < (bb ++ enc 9 d.ns.length).length := by
    have := (enc_len 9 d.ns.length).1
    rw [List.length_append]; omega
  generalize bb ++ enc 9 d.ns.length = b0 at q2 hRB hb0l
  have k1 := CallG.toL 171 (by simp [magicL]) (by simpa using ne_of_lt hbl.2) q1
  have k2 := CallG.toL 172 (by simpa using ne_of_lt hbl.2) (by simpa using ne_of_lt hb0l.2) q2
  clear q1 q2
  refine zzg (nt := 156) (rs := [.tmp 2, .tmp 3]) Try.func8 ?_; intro Q hQ hW
  repeat' (first
 | (with_reducible refine run_n ?_; with_reducible first | refine hK _ _ (by simp) ?_ | refine hK _ _ ?_; clear hK K)
 | (refine zzc ?_)
 | (with_reducible refine awp_regT (by kernel_rfl) ?_; intro K hK)
 | (with_reducible refine awp_regAM (id := 10) [(59, some 22), (61, some 6), (67, some 22)] mixed (by kernel_rfl) (by kernel_rfl) ?_; intro K hK)
 | (with_reducible refine awp_regAM (id := 17) [(95, some 22), (97, some 6), (103, some 22)] mixed (by kernel_rfl) (by kernel_rfl) ?_; intro K hK)
 | (with_reducible refine awp_regAM (id := 26) [(132, some 22), (134, some 8), (140, some 22)] mixed (by kernel_rfl) (by kernel_rfl) ?_; intro K hK)
 | (with_reducible first | refine a_move (hr:=?_) | refine a_assign (hr:=?_) | refine a_load (hr:=?_) | refine a_fieldAddr (hr:=?_) | refine a_nilCheck (hr:=?_) | refine a_bin (hr:=?_) | refine a_lenS (hr:=?_) | refine a_lenR (hr:=?_) | refine a_pick (hr:=?_) | refine a_store (hr:=?_) | refine a_box (hr:=?_) | refine a_alloc (hr:=?_) | refine a_conv (hr:=?_) | refine a_bytesStr (hr:=?_) | refine a_strBytes (hr:=?_) | refine a_sameSl (hr:=?_) | refine a_idxArr (hr:=?_) | refine a_indexAddr (hr:=?_) | refine a_build (hr:=?_) | refine a_buildSlice (hr:=?_) | refine a_append (hr:=?_) | refine a_append0 (hr:=?_) | refine a_appendX (hr:=?_) | refine a_gT (hr:=?_) | refine a_gF (hr:=?_) | refine a_gU (hr:=?_))
 | (with_reducible refine a_gB (hT := ?_) (hF := ?_) <;> intro hb <;> (try simp at hb) <;> (try contradiction) <;> (try subst hb) <;> (try omega))
 | fail)
  refine a_cond (ht := ?_) (hf := ?_) <;> intro hb <;> (try simp at hb) <;> (try contradiction) <;> (try omega)
  repeat' (first
 | (with_reducible refine run_n ?_; with_reducible first | refine hK _ _ (by simp) ?_ | refine hK _ _ ?_; clear hK K)
 | (refine zzc ?_)
 | (with_reducible refine a_cond (ht := ?_) (hf := ?_) <;> intro hb <;> (try simp at hb) <;> (try contradiction) <;> (try subst hb) <;> (try omega))
 | (with_reducible first | refine a_move (hr:=?_) | refine a_assign (hr:=?_) | refine a_load (hr:=?_) | refine a_fieldAddr (hr:=?_) | refine a_nilCheck (hr:=?_) | refine a_bin (hr:=?_) | refine a_lenS (hr:=?_) | refine a_lenR (hr:=?_) | refine a_pick (hr:=?_) | refine a_store (hr:=?_) | refine a_box (hr:=?_) | refine a_alloc (hr:=?_) | refine a_conv (hr:=?_) | refine a_bytesStr (hr:=?_) | refine a_strBytes (hr:=?_) | refine a_sameSl (hr:=?_) | refine a_idxArr (hr:=?_) | refine a_indexAddr (hr:=?_) | refine a_build (hr:=?_) | refine a_buildSlice (hr:=?_) | refine a_append (hr:=?_) | refine a_append0 (hr:=?_) | refine a_appendX (hr:=?_) | refine a_gT (hr:=?_) | refine a_gF (hr:=?_) | refine a_gU (hr:=?_))
 | (with_reducible refine a_gB (hT := ?_) (hF := ?_) <;> intro hb <;> (try simp at hb) <;> (try contradiction) <;> (try subst hb) <;> (try omega))
 | fail)
  (with_reducible refine awp_regT (by kernel_rfl) ?_; intro K hK)
  repeat' (first
 | (with_reducible refine run_n ?_; with_reducible first | refine hK _ _ (by simp) ?_ | refine hK _ _ ?_; clear hK K)
 | (refine zzc ?_)
 | (with_reducible refine a_cond (ht := ?_) (hf := ?_) <;> intro hb <;> (try simp at hb) <;> (try contradiction) <;> (try subst hb) <;> (try omega))
 | (with_reducible first | refine a_move (hr:=?_) | refine a_assign (hr:=?_) | refine a_load (hr:=?_) | refine a_fieldAddr (hr:=?_) | refine a_nilCheck (hr:=?_) | refine a_bin (hr:=?_) | refine a_lenS (hr:=?_) | refine a_lenR (hr:=?_) | refine a_pick (hr:=?_) | refine a_store (hr:=?_) | refine a_box (hr:=?_) | refine a_alloc (hr:=?_) | refine a_conv (hr:=?_) | refine a_bytesStr (hr:=?_) | refine a_strBytes (hr:=?_) | refine a_sameSl (hr:=?_) | refine a_idxArr (hr:=?_) | refine a_indexAddr (hr:=?_) | refine a_build (hr:=?_) | refine a_buildSlice (hr:=?_) | refine a_append (hr:=?_) | refine a_append0 (hr:=?_) | refine a_appendX (hr:=?_) | refine a_gT (hr:=?_) | refine a_gF (hr:=?_) | refine a_gU (hr:=?_))
 | (with_reducible refine a_gB (hT := ?_) (hF := ?_) <;> intro hb <;> (try simp at hb) <;> (try contradiction) <;> (try subst hb) <;> (try omega))
 | fail)
  refine AWP.weak (σ2 := ⟨envA [(1, .ptr 1 0), (4, .ptr 90001 0)], hpL [(1, .box (defAV d)), (90001, .box (.agg [.ow 170 1 0 3, .raw (.bool false), .raw (.bool false)])), (170, .arr 1 [.raw (.int .u8 98), .raw (.int .u8 112), .raw (.int .u8 49)])]⟩) (weak_or2 22 90001 19 170 (by decide) (by decide) (by decide) (by decide) (by repeat' (first | refine sub_ohp (by first | (simp; done) | (intro hne; simp at hne; simp [hne])) (by simp) ?_ | exact sub_hpL (by simp))) (by simp) (by simp <;> omega)) ?_
  rw [show [AV.raw (.int .u8 98), AV.raw (.int .u8 112), AV.raw (.int .u8 49)] = u8s magicL from rfl]
  repeat' (first
 | (with_reducible refine run_n ?_; with_reducible first | refine hK _ _ (by simp) ?_ | refine hK _ _ ?_; clear hK K)
 | (refine zzc ?_)
 | (with_reducible refine awp_regT (by kernel_rfl) ?_; intro K hK)
 | (with_reducible refine awp_regAM (id := 10) [(59, some 90001), (61, some 6), (67, some 90001)] mixed (by kernel_rfl) (by kernel_rfl) ?_; intro K hK)
 | (with_reducible refine awp_regAM (id := 17) [(95, some 90001), (97, some 6), (103, some 90001)] mixed (by kernel_rfl) (by kernel_rfl) ?_; intro K hK)
 | (with_reducible refine awp_regAM (id := 26) [(132, some 90001), (134, some 8), (140, some 90001)] mixed (by kernel_rfl) (by kernel_rfl) ?_; intro K hK)
 | (with_reducible refine a_cond (ht := ?_) (hf := ?_) <;> intro hb <;> (try simp at hb) <;> (try contradiction) <;> (try subst hb) <;> (try omega))
 | (with_reducible first | refine a_move (hr:=?_) | refine a_assign (hr:=?_) | refine a_load (hr:=?_) | refine a_fieldAddr (hr:=?_) | refine a_nilCheck (hr:=?_) | refine a_bin (hr:=?_) | refine a_lenS (hr:=?_) | refine a_lenR (hr:=?_) | refine a_pick (hr:=?_) | refine a_store (hr:=?_) | refine a_box (hr:=?_) | refine a_alloc (hr:=?_) | refine a_conv (hr:=?_) | refine a_bytesStr (hr:=?_) | refine a_strBytes (hr:=?_) | refine a_sameSl (hr:=?_) | refine a_idxArr (hr:=?_) | refine a_indexAddr (hr:=?_) | refine a_build (hr:=?_) | refine a_buildSlice (hr:=?_) | refine a_append (hr:=?_) | refine a_append0 (hr:=?_) | refine a_appendX (hr:=?_) | refine a_callM (p := 90001) (k := 200000) (q := 170) (hcall := k1) (hr:=?_) | refine a_callM (p := 90001) (k := 200000) (q := 171) (hcall := k2) (hr:=?_) | refine a_gT (hr:=?_) | refine a_gF (hr:=?_) | refine a_gU (hr:=?_))
 | (with_reducible refine a_gB (hT := ?_) (hF := ?_) <;> intro hb <;> (try simp at hb) <;> (try contradiction) <;> (try subst hb) <;> (try omega))
 | fail)
  clear k1 k2
  have start : NodeI d b0 l0 0 b0 l0 false := ⟨Nat.zero_le _, rfl, by simp, by simp, by omega, hb0l.2⟩
  refine awp_inv (α := Nat × List Int × Bool × Bool) (fun s => [(1, .ptr 1 0), (4, .ptr 90001 0), (33, .sl 8 (d.ns.map nodeAV)), (34, .raw (.int .i64 d.ns.length)), (35, .raw (.int .i64 s.1))]) (fun s => hpL [(1, .box (defAV d)), (90001, .box (.agg [.ow 170 1 0 s.2.1.length, .raw (.bool s.2.2.1), .raw (.bool s.2.2.2)])), (170, .arr 1 (u8s s.2.1))]) (fun s => NodeI d b0 l0 s.1 s.2.1 s.2.2.1 s.2.2.2) (fun s => d.ns.length - s.1) (0, b0, l0, false) start (zzx 170 172) ?_
  rintro ⟨i, b, long, arg⟩ g
  simp only at g ⊢
  have gsz := g.sz
  have gne := g.ne
  have gle := g.le
  rcases Nat.lt_or_ge i d.ns.length with hlt | hge
  · have hx := List.getElem?_eq_getElem hlt
    generalize d.ns[i] = y at hx
    have gn := g.next h hx
    have hy := h.n y (List.mem_of_getElem? hx)
    obtain ⟨b, hb⟩ : ∃ x, x = b := ⟨_, rfl⟩
    subst hb
    have y1 := hy.nm
    have y2 := hy.tx
    have y3 := hy.ky
    have y4 := hy.to
    have y5 := hy.kd
    have y6 := hy.up
    have y7 := hy.at_
    clear hy
    obtain ⟨kd, nm, up, tx, ky, to, at_, st⟩ := y
    simp only at y1 y2 y3 y4 y5 y6 y7
    obtain ⟨ag, hag⟩ : ∃ x, (arg || decide (kd < 0 ∨ 255 < kd)) = x := ⟨_, rfl⟩
    have c1 := txtL_len nm
    have c2 := txtL_len tx
    have c3 := txtL_len ky
    have c4 := txtL_len to
    have c5 := num_len up (-1) 254
    have c6 := num_len at_ (-1) 254
    have nb : ∀ t : List Int, b ++ t ≠ [] := fun t => by
      intro hh
      rw [List.append_eq_nil_iff] at hh
      rw [hh.1] at gne; simp at gne
    have p1 := c_wtext (b ++ [kd % 256]) long ag nm (by omega) (nb _) (by rw [List.length_append, List.length_singleton]; omega)
    have p2 := c_wnum (b ++ [kd % 256] ++ txtL nm) (long || decide (128 < nm.size)) ag up (-1) 254 y6 (by omega) (by omega) (by rw [List.append_assoc]; exact nb _) (by simp only [List.length_append, List.length_singleton] at *; omega)
    have p3 := c_wtext (b ++ [kd % 256] ++ txtL nm ++ numL up (-1) 254) (long || decide (128 < nm.size)) (ag || decide (up < -1 ∨ 254 < up)) tx (by omega) (by simp only [List.append_assoc]; exact nb _) (by simp only [List.length_append, List.length_singleton] at *; omega)
    have p4 := c_wtext (b ++ [kd % 256] ++ txtL nm ++ numL up (-1) 254 ++ txtL tx) (long || decide (128 < nm.size) || decide (128 < tx.size)) (ag || decide (up < -1 ∨ 254 < up)) ky (by omega) (by simp only [List.append_assoc]; exact nb _) (by simp only [List.length_append, List.length_singleton] at *; omega)
    have p5 := c_wtext (b ++ [kd % 256] ++ txtL nm ++ numL up (-1) 254 ++ txtL tx ++ txtL ky) (long || decide (128 < nm.size) || decide (128 < tx.size) || decide (128 < ky.size)) (ag || decide (up < -1 ∨ 254 < up)) to (by omega) (by simp only [List.append_assoc]; exact nb _) (by simp only [List.length_append, List.length_singleton] at *; omega)
    have p6 := c_wnum (b ++ [kd % 256] ++ txtL nm ++ numL up (-1) 254 ++ txtL tx ++ txtL ky ++ txtL to) (long || decide (128 < nm.size) || decide (128 < tx.size) || decide (128 < ky.size) || decide (128 < to.size)) (ag || decide (up < -1 ∨ 254 < up)) at_ (-1) 254 y7 (by omega) (by omega) (by simp only [List.append_assoc]; exact nb _) (by simp only [List.length_append, List.length_singleton] at *; omega)
    have e1 : pnL b ⟨kd, nm, up, tx, ky, to, at_, st⟩ = b ++ [kd % 256] ++ txtL nm ++ numL up (-1) 254 ++ txtL tx ++ txtL ky ++ txtL to ++ numL at_ (-1) 254 ++ [bitI st] := rfl
    have e2 : (long || longN ⟨kd, nm, up, tx, ky, to, at_, st⟩) = (long || decide (128 < nm.size) || decide (128 < tx.size) || decide (128 < ky.size) || decide (128 < to.size)) := by unfold longN; simp only [Bool.or_assoc]
    have e3 : (arg || argN ⟨kd, nm, up, tx, ky, to, at_, st⟩) = (ag || decide (up < -1 ∨ 254 < up) || decide (at_ < -1 ∨ 254 < at_)) := by rw [← hag]; unfold argN; simp only [Bool.or_assoc]
    rw [e1, e2, e3] at gn
    clear e1 e2 e3
    generalize txtL nm = t1 at *
    generalize txtL tx = t2 at *
    generalize txtL ky = t3 at *
    generalize txtL to = t4 at *
    generalize numL up (-1) 254 = t5 at *
    generalize numL at_ (-1) 254 = t6 at *
    generalize decide (128 < nm.size) = f1 at *
    generalize decide (128 < tx.size) = f2 at *
    generalize decide (128 < ky.size) = f3 at *
    generalize decide (128 < to.size) = f4 at *
    generalize decide (up < -1 ∨ 254 < up) = f5 at *
    generalize decide (at_ < -1 ∨ 254 < at_) = f6 at *
    have nu : ∀ t : List Int, u8s (b ++ t) ≠ [] := fun t => by simpa using fun h => by intro h2; exact nb t (by rw [h, h2]; rfl)
    have z1 := CallG.toL 171 (nu _) (by simp only [List.append_assoc]; exact nu _) p1
    have z2 := CallG.toL 172 (by simp only [List.append_assoc]; exact nu _) (by simp only [List.append_assoc]; exact nu _) p2
    have z3 := CallG.toL 173 (by simp only [List.append_assoc]; exact nu _) (by simp only [List.append_assoc]; exact nu _) p3
    have z4 := CallG.toL 174 (by simp only [List.append_assoc]; exact nu _) (by simp only [List.append_assoc]; exact nu _) p4
    have z5 := CallG.toL 175 (by simp only [List.append_assoc]; exact nu _) (by simp only [List.append_assoc]; exact nu _) p5
    have z6 := CallG.toL 176 (by simp only [List.append_assoc]; exact nu _) (by simp only [List.append_assoc]; exact nu _) p6
    have z7 := c_bit st
    have hss := wrap_u8m kd
    clear p1 p2 p3 p4 p5 p6 nb nu g start hLD hAD hRB hRP hb0l hbl
    repeat' (first
 | (with_reducible refine run_n ?_; with_reducible first | refine hK _ _ (by simp) ?_ | refine hK _ _ ?_; clear hK K)
 | (refine zzc ?_)
 | (with_reducible refine a_cond (ht := ?_) (hf := ?_) <;> intro hb <;> (try simp at hb) <;> (try contradiction) <;> (try subst hb) <;> (try omega))
 | (with_reducible first | refine a_move (hr:=?_) | refine a_assign (hr:=?_) | refine a_load (hr:=?_) | refine a_fieldAddr (hr:=?_) | refine a_nilCheck (hr:=?_) | refine a_bin (hr:=?_) | refine a_lenS (hr:=?_) | refine a_lenR (hr:=?_) | refine a_pick (hr:=?_) | refine a_store (hr:=?_) | refine a_box (hr:=?_) | refine a_alloc (hr:=?_) | refine a_conv (hr:=?_) | refine a_bytesStr (hr:=?_) | refine a_strBytes (hr:=?_) | refine a_sameSl (hr:=?_) | refine a_idxArr (hr:=?_) | refine a_indexAddr (hr:=?_) | refine a_build (hr:=?_) | refine a_buildSlice (hr:=?_) | refine a_append (hr:=?_) | refine a_append0 (hr:=?_) | refine a_appendX (hr:=?_) | refine a_gT (hr:=?_) | refine a_gF (hr:=?_) | refine a_gU (hr:=?_))
 | (with_reducible refine a_gB (hT := ?_) (hF := ?_) <;> intro hb <;> (try simp at hb) <;> (try contradiction) <;> (try subst hb) <;> (try omega))
 | fail)
    (with_reducible refine awp_regT (by kernel_rfl) ?_; intro K hK)
    repeat' (first
 | (with_reducible refine run_n ?_; with_reducible first | refine hK _ _ (by simp) ?_ | refine hK _ _ ?_; clear hK K)
 | (refine zzc ?_)
 | (with_reducible refine a_cond (ht := ?_) (hf := ?_) <;> intro hb <;> (try simp at hb) <;> (try contradiction) <;> (try subst hb) <;> (try omega))
 | (with_reducible first | refine a_move (hr:=?_) | refine a_assign (hr:=?_) | refine a_load (hr:=?_) | refine a_fieldAddr (hr:=?_) | refine a_nilCheck (hr:=?_) | refine a_bin (hr:=?_) | refine a_lenS (hr:=?_) | refine a_lenR (hr:=?_) | refine a_pick (hr:=?_) | refine a_store (hr:=?_) | refine a_box (hr:=?_) | refine a_alloc (hr:=?_) | refine a_conv (hr:=?_) | refine a_bytesStr (hr:=?_) | refine a_strBytes (hr:=?_) | refine a_sameSl (hr:=?_) | refine a_idxArr (hr:=?_) | refine a_indexAddr (hr:=?_) | refine a_build (hr:=?_) | refine a_buildSlice (hr:=?_) | refine a_append (hr:=?_) | refine a_append0 (hr:=?_) | refine a_appendX (hr:=?_) | refine a_gT (hr:=?_) | refine a_gF (hr:=?_) | refine a_gU (hr:=?_))
 | (with_reducible refine a_gB (hT := ?_) (hF := ?_) <;> intro hb <;> (try simp at hb) <;> (try contradiction) <;> (try subst hb) <;> (try omega))
 | fail)
    (with_reducible refine awp_regT (by kernel_rfl) ?_; intro K hK)
    repeat' (first
 | (with_reducible refine run_n ?_; with_reducible first | refine hK _ _ (by simp) ?_ | refine hK _ _ ?_; clear hK K)
 | (refine zzc ?_)
 | (with_reducible refine a_cond (ht := ?_) (hf := ?_) <;> intro hb <;> (try simp at hb) <;> (try contradiction) <;> (try subst hb) <;> (try omega))
 | (with_reducible first | refine a_move (hr:=?_) | refine a_assign (hr:=?_) | refine a_load (hr:=?_) | refine a_fieldAddr (hr:=?_) | refine a_nilCheck (hr:=?_) | refine a_bin (hr:=?_) | refine a_lenS (hr:=?_) | refine a_lenR (hr:=?_) | refine a_pick (hr:=?_) | refine a_store (hr:=?_) | refine a_box (hr:=?_) | refine a_alloc (hr:=?_) | refine a_conv (hr:=?_) | refine a_bytesStr (hr:=?_) | refine a_strBytes (hr:=?_) | refine a_sameSl (hr:=?_) | refine a_idxArr (hr:=?_) | refine a_indexAddr (hr:=?_) | refine a_build (hr:=?_) | refine a_buildSlice (hr:=?_) | refine a_append (hr:=?_) | refine a_append0 (hr:=?_) | refine a_appendX (hr:=?_) | refine a_gT (hr:=?_) | refine a_gF (hr:=?_) | refine a_gU (hr:=?_))
 | (with_reducible refine a_gB (hT := ?_) (hF := ?_) <;> intro hb <;> (try simp at hb) <;> (try contradiction) <;> (try subst hb) <;> (try omega))
 | fail)
    refine wp_join ⟨envA [(1, .ptr 1 0), (4, .ptr 90001 0), (6, .ptr 6 0), (33, .sl 8 (d.ns.map nodeAV)), (34, .raw (.int .i64 d.ns.length)), (35, .raw (.int .i64 i))], hpL [(1, .box (defAV d)), (6, .box (nodeAV ⟨kd, nm, up, tx, ky, to, at_, st⟩)), (90001, .box (.agg [.ow 170 1 0 b.length, .raw (.bool long), .raw (.bool ag)])), (170, .arr 1 (u8s b))]⟩ ?_ ?_
    · cases arg with
      | true =>
        simp only [Bool.true_or] at hag
        subst hag
        (with_reducible refine awp_regT (by kernel_rfl) ?_; intro K hK)
        repeat' (first
 | (with_reducible refine run_n ?_; with_reducible first | refine hK _ _ (by simp) ?_ | refine hK _ _ ?_; clear hK K)
 | (refine zzc ?_)
 | (with_reducible refine a_cond (ht := ?_) (hf := ?_) <;> intro hb <;> (try simp at hb) <;> (try contradiction) <;> (try subst hb) <;> (try omega))
 | (with_reducible first | refine a_move (hr:=?_) | refine a_assign (hr:=?_) | refine a_load (hr:=?_) | refine a_fieldAddr (hr:=?_) | refine a_nilCheck (hr:=?_) | refine a_bin (hr:=?_) | refine a_lenS (hr:=?_) | refine a_lenR (hr:=?_) | refine a_pick (hr:=?_) | refine a_store (hr:=?_) | refine a_box (hr:=?_) | refine a_alloc (hr:=?_) | refine a_conv (hr:=?_) | refine a_bytesStr (hr:=?_) | refine a_strBytes (hr:=?_) | refine a_sameSl (hr:=?_) | refine a_idxArr (hr:=?_) | refine a_indexAddr (hr:=?_) | refine a_build (hr:=?_) | refine a_buildSlice (hr:=?_) | refine a_append (hr:=?_) | refine a_append0 (hr:=?_) | refine a_appendX (hr:=?_) | refine a_gT (hr:=?_) | refine a_gF (hr:=?_) | refine a_gU (hr:=?_))
 | (with_reducible refine a_gB (hT := ?_) (hF := ?_) <;> intro hb <;> (try simp at hb) <;> (try contradiction) <;> (try subst hb) <;> (try omega))
 | fail)
        exact zzw
      | false =>
        rw [Bool.false_or] at hag
        by_cases k0 : kd < 0
        · rw [decide_eq_true (Or.inl k0)] at hag
          subst hag
          (with_reducible refine awp_regT (by kernel_rfl) ?_; intro K hK)
          repeat' (first
 | (with_reducible refine run_n ?_; with_reducible first | refine hK _ _ (by simp) ?_ | refine hK _ _ ?_; clear hK K)
 | (refine zzc ?_)
 | (with_reducible refine a_cond (ht := ?_) (hf := ?_) <;> intro hb <;> (try simp at hb) <;> (try contradiction) <;> (try subst hb) <;> (try omega))
 | (with_reducible first | refine a_move (hr:=?_) | refine a_assign (hr:=?_) | refine a_load (hr:=?_) | refine a_fieldAddr (hr:=?_) | refine a_nilCheck (hr:=?_) | refine a_bin (hr:=?_) | refine a_lenS (hr:=?_) | refine a_lenR (hr:=?_) | refine a_pick (hr:=?_) | refine a_store (hr:=?_) | refine a_box (hr:=?_) | refine a_alloc (hr:=?_) | refine a_conv (hr:=?_) | refine a_bytesStr (hr:=?_) | refine a_strBytes (hr:=?_) | refine a_sameSl (hr:=?_) | refine a_idxArr (hr:=?_) | refine a_indexAddr (hr:=?_) | refine a_build (hr:=?_) | refine a_buildSlice (hr:=?_) | refine a_append (hr:=?_) | refine a_append0 (hr:=?_) | refine a_appendX (hr:=?_) | refine a_gT (hr:=?_) | refine a_gF (hr:=?_) | refine a_gU (hr:=?_))
 | (with_reducible refine a_gB (hT := ?_) (hF := ?_) <;> intro hb <;> (try simp at hb) <;> (try contradiction) <;> (try subst hb) <;> (try omega))
 | fail)
          exact zzw
        · by_cases k1 : 255 < kd
          · rw [decide_eq_true (Or.inr k1)] at hag
            subst hag
            (with_reducible refine awp_regT (by kernel_rfl) ?_; intro K hK)
            repeat' (first
 | (with_reducible refine run_n ?_; with_reducible first | refine hK _ _ (by simp) ?_ | refine hK _ _ ?_; clear hK K)
 | (refine zzc ?_)
 | (with_reducible refine a_cond (ht := ?_) (hf := ?_) <;> intro hb <;> (try simp at hb) <;> (try contradiction) <;> (try subst hb) <;> (try omega))
 | (with_reducible first | refine a_move (hr:=?_) | refine a_assign (hr:=?_) | refine a_load (hr:=?_) | refine a_fieldAddr (hr:=?_) | refine a_nilCheck (hr:=?_) | refine a_bin (hr:=?_) | refine a_lenS (hr:=?_) | refine a_lenR (hr:=?_) | refine a_pick (hr:=?_) | refine a_store (hr:=?_) | refine a_box (hr:=?_) | refine a_alloc (hr:=?_) | refine a_conv (hr:=?_) | refine a_bytesStr (hr:=?_) | refine a_strBytes (hr:=?_) | refine a_sameSl (hr:=?_) | refine a_idxArr (hr:=?_) | refine a_indexAddr (hr:=?_) | refine a_build (hr:=?_) | refine a_buildSlice (hr:=?_) | refine a_append (hr:=?_) | refine a_append0 (hr:=?_) | refine a_appendX (hr:=?_) | refine a_gT (hr:=?_) | refine a_gF (hr:=?_) | refine a_gU (hr:=?_))
 | (with_reducible refine a_gB (hT := ?_) (hF := ?_) <;> intro hb <;> (try simp at hb) <;> (try contradiction) <;> (try subst hb) <;> (try omega))
 | fail)
            exact zzw (hs := by repeat' (first | refine sub_ohp (by first | (simp; done) | (intro hne; simp at hne; simp [hne]) | (simp; omega)) (by simp) ?_ | exact sub_hpL (by first | (simp; done) | (simp; omega))))
          · rw [decide_eq_false (by omega)] at hag
            subst hag
            (with_reducible refine awp_regT (by kernel_rfl) ?_; intro K hK)
            repeat' (first
 | (with_reducible refine run_n ?_; with_reducible first | refine hK _ _ (by simp) ?_ | refine hK _ _ ?_; clear hK K)
 | (refine zzc ?_)
 | (with_reducible refine a_cond (ht := ?_) (hf := ?_) <;> intro hb <;> (try simp at hb) <;> (try contradiction) <;> (try subst hb) <;> (try omega))
 | (with_reducible first | refine a_move (hr:=?_) | refine a_assign (hr:=?_) | refine a_load (hr:=?_) | refine a_fieldAddr (hr:=?_) | refine a_nilCheck (hr:=?_) | refine a_bin (hr:=?_) | refine a_lenS (hr:=?_) | refine a_lenR (hr:=?_) | refine a_pick (hr:=?_) | refine a_store (hr:=?_) | refine a_box (hr:=?_) | refine a_alloc (hr:=?_) | refine a_conv (hr:=?_) | refine a_bytesStr (hr:=?_) | refine a_strBytes (hr:=?_) | refine a_sameSl (hr:=?_) | refine a_idxArr (hr:=?_) | refine a_indexAddr (hr:=?_) | refine a_build (hr:=?_) | refine a_buildSlice (hr:=?_) | refine a_append (hr:=?_) | refine a_append0 (hr:=?_) | refine a_appendX (hr:=?_) | refine a_gT (hr:=?_) | refine a_gF (hr:=?_) | refine a_gU (hr:=?_))
 | (with_reducible refine a_gB (hT := ?_) (hF := ?_) <;> intro hb <;> (try simp at hb) <;> (try contradiction) <;> (try subst hb) <;> (try omega))
 | fail)
            exact zzw (hs := by repeat' (first | refine sub_ohp (by first | (simp; done) | (intro hne; simp at hne; simp [hne]) | (simp; omega)) (by simp) ?_ | exact sub_hpL (by first | (simp; done) | (simp; omega))))
    · repeat' (first
 | (with_reducible refine run_n ?_; with_reducible first | refine hK _ _ (by simp) ?_ | refine hK _ _ ?_; clear hK K)
 | (refine zzc ?_)
 | (with_reducible refine awp_regT (by kernel_rfl) ?_; intro K hK)
 | (with_reducible refine awp_regAM (id := 10) [(59, some 90001), (61, some 6), (67, some 90001)] mixed (by kernel_rfl) (by kernel_rfl) ?_; intro K hK)
 | (with_reducible refine awp_regAM (id := 17) [(95, some 90001), (97, some 6), (103, some 90001)] mixed (by kernel_rfl) (by kernel_rfl) ?_; intro K hK)
 | (with_reducible refine awp_regAM (id := 26) [(132, some 90001), (134, some 8), (140, some 90001)] mixed (by kernel_rfl) (by kernel_rfl) ?_; intro K hK)
 | (with_reducible refine a_cond (ht := ?_) (hf := ?_) <;> intro hb <;> (try simp at hb) <;> (try contradiction) <;> (try subst hb) <;> (try omega))
 | (with_reducible first | refine a_move (hr:=?_) | refine a_assign (hr:=?_) | refine a_load (hr:=?_) | refine a_fieldAddr (hr:=?_) | refine a_nilCheck (hr:=?_) | refine a_bin (hr:=?_) | refine a_lenS (hr:=?_) | refine a_lenR (hr:=?_) | refine a_pick (hr:=?_) | refine a_store (hr:=?_) | refine a_box (hr:=?_) | refine a_alloc (hr:=?_) | refine a_conv (hr:=?_) | refine a_bytesStr (hr:=?_) | refine a_strBytes (hr:=?_) | refine a_sameSl (hr:=?_) | refine a_idxArr (hr:=?_) | refine a_indexAddr (hr:=?_) | refine a_build (hr:=?_) | refine a_buildSlice (hr:=?_) | refine a_append (hr:=?_) | refine a_append0 (hr:=?_) | refine a_appendX (hr:=?_) | refine a_callM (p := 90001) (k := 200000) (q := 65) (hcall := z1) (hr:=?_) | refine a_callM (p := 90001) (k := 200000) (q := 171) (hcall := z2) (hr:=?_) | refine a_callM (p := 90001) (k := 200000) (q := 172) (hcall := z3) (hr:=?_) | refine a_callM (p := 90001) (k := 200000) (q := 173) (hcall := z4) (hr:=?_) | refine a_callM (p := 90001) (k := 200000) (q := 174) (hcall := z5) (hr:=?_) | refine a_callM (p := 90001) (k := 200000) (q := 175) (hcall := z6) (hr:=?_) | refine a_call0 (hcall := z7) (hr:=?_) | refine a_gT (hr:=?_) | refine a_gF (hr:=?_) | refine a_gU (hr:=?_))
 | (with_reducible refine a_gB (hT := ?_) (hF := ?_) <;> intro hb <;> (try simp at hb) <;> (try contradiction) <;> (try subst hb) <;> (try omega))
 | fail)
      exact ⟨(i + 1, _, _, _), by simp only; omega, gn, zzx 170 101 (hs := by repeat' (first | refine sub_ohp (by first | (simp; done) | (intro hne; simp at hne; simp [hne]) | (simp; (repeat' apply And.intro) <;> first | omega | exact orm _ _ | (rw [u8_full (by simp <;> omega)]; simp))) (by simp) ?_ | exact sub_hpL (by first | (simp; done) | (simp; (repeat' apply And.intro) <;> first | omega | exact orm _ _ | (rw [u8_full (by simp <;> omega)]; simp)))))⟩
  · have hi : i = d.ns.length := by omega
    have eb : d.ns.foldl pnL b0 = b := by rw [g.eq, hi, List.take_length]
    have el : long = (l0 || d.ns.any longN) := by rw [g.lg, hi, List.take_length]
    have ea : arg = d.ns.any argN := by rw [g.ag, hi, List.take_length]
    rw [← el] at hLD
    rw [← ea] at hAD
    rw [eb] at hRB
    clear el ea eb g start
    have q := c_wnum b long arg d.fs.length 0 80 (by omega) (by omega) (by omega) (by intro h; rw [h] at gne; simp at gne) (by omega)
    rw [decide_eq_false (show ¬ ((d.fs.length : Int) < 0 ∨ 80 < (d.fs.length : Int)) by omega), Bool.or_false, num_in (show ¬ ((d.fs.length : Int) < 0 ∨ 80 < (d.fs.length : Int)) by omega), Int.sub_zero] at q
    have hb1l : (b ++ enc 9 d.fs.length).length ≤ 500000 ∧ 0 < (b ++ enc 9 d.fs.length).length := by
      have := (enc_len 9 d.fs.length).1
      rw [List.length_append]; omega
    generalize b ++ enc 9 d.fs.length = b1 at q hRB hb1l
    have k := CallG.toL 171 (by simpa using ne_of_lt gne) (by simpa using ne_of_lt hb1l.2) q
    clear q
    repeat' (first
 | (with_reducible refine run_n ?_; with_reducible first | refine hK _ _ (by simp) ?_ | refine hK _ _ ?_; clear hK K)
 | (refine zzc ?_)
 | (with_reducible refine awp_regT (by kernel_rfl) ?_; intro K hK)
 | (with_reducible refine awp_regAM (id := 10) [(59, some 90001), (61, some 6), (67, some 90001)] mixed (by kernel_rfl) (by kernel_rfl) ?_; intro K hK)
 | (with_reducible refine awp_regAM (id := 17) [(95, some 90001), (97, some 6), (103, some 90001)] mixed (by kernel_rfl) (by kernel_rfl) ?_; intro K hK)
 | (with_reducible refine awp_regAM (id := 26) [(132, some 90001), (134, some 8), (140, some 90001)] mixed (by kernel_rfl) (by kernel_rfl) ?_; intro K hK)
 | (with_reducible refine a_cond (ht := ?_) (hf := ?_) <;> intro hb <;> (try simp at hb) <;> (try contradiction) <;> (try subst hb) <;> (try omega))
 | (with_reducible first | refine a_move (hr:=?_) | refine a_assign (hr:=?_) | refine a_load (hr:=?_) | refine a_fieldAddr (hr:=?_) | refine a_nilCheck (hr:=?_) | refine a_bin (hr:=?_) | refine a_lenS (hr:=?_) | refine a_lenR (hr:=?_) | refine a_pick (hr:=?_) | refine a_store (hr:=?_) | refine a_box (hr:=?_) | refine a_alloc (hr:=?_) | refine a_conv (hr:=?_) | refine a_bytesStr (hr:=?_) | refine a_strBytes (hr:=?_) | refine a_sameSl (hr:=?_) | refine a_idxArr (hr:=?_) | refine a_indexAddr (hr:=?_) | refine a_build (hr:=?_) | refine a_buildSlice (hr:=?_) | refine a_append (hr:=?_) | refine a_append0 (hr:=?_) | refine a_appendX (hr:=?_) | refine a_callM (p := 90001) (k := 200000) (q := 170) (hcall := k) (hr:=?_) | refine a_gT (hr:=?_) | refine a_gF (hr:=?_) | refine a_gU (hr:=?_))
 | (with_reducible refine a_gB (hT := ?_) (hF := ?_) <;> intro hb <;> (try simp at hb) <;> (try contradiction) <;> (try subst hb) <;> (try omega))
 | fail)
    clear k
    have start : FlowI d b1 long arg 0 b1 long arg := ⟨Nat.zero_le _, rfl, by simp, by simp, by omega, hb1l.2⟩
    refine awp_inv (α := Nat × List Int × Bool × Bool) (fun s => [(1, .ptr 1 0), (4, .ptr 90001 0), (111, .sl 4 (d.fs.map flowAV)), (112, .raw (.int .i64 d.fs.length)), (113, .raw (.int .i64 s.1))]) (fun s => hpL [(1, .box (defAV d)), (90001, .box (.agg [.ow 170 1 0 s.2.1.length, .raw (.bool s.2.2.1), .raw (.bool s.2.2.2)])), (170, .arr 1 (u8s s.2.1))]) (fun s => FlowI d b1 long arg s.1 s.2.1 s.2.2.1 s.2.2.2) (fun s => d.fs.length - s.1) (0, b1, long, arg) start (zzx 170 171) ?_
    clear start
    rintro ⟨j, c, lg, ag⟩ g
    simp only at g ⊢
    have csz := g.sz
    have cne := g.ne
    have cle := g.le
    rcases Nat.lt_or_ge j d.fs.length with hlt | hge
    · have hx := List.getElem?_eq_getElem hlt
      generalize d.fs[j] = y at hx
      have gn := g.next h hx
      have hy := h.f y (List.mem_of_getElem? hx)
      have y1 := hy.cd
      have y2 := hy.fr
      have y3 := hy.to
      clear hy
      obtain ⟨fr, to, cd, el⟩ := y
      simp only at y1 y2 y3
      have c1 := txtL_len cd
      have c5 := num_len fr 0 254
      have c6 := num_len to 0 254
      have nb : ∀ t : List Int, c ++ t ≠ [] := fun t => by
        intro hh
        rw [List.append_eq_nil_iff] at hh
        rw [hh.1] at cne; simp at cne
      have p1 := c_wnum c lg ag fr 0 254 y2 (by omega) (by omega) (by simpa using nb []) (by omega)
      have p2 := c_wnum (c ++ numL fr 0 254) lg (ag || decide (fr < 0 ∨ 254 < fr)) to 0 254 y3 (by omega) (by omega) (nb _) (by rw [List.length_append]; omega)
      have p3 := c_wtext (c ++ numL fr 0 254 ++ numL to 0 254) lg (ag || decide (fr < 0 ∨ 254 < fr) || decide (to < 0 ∨ 254 < to)) cd (by omega) (by rw [List.append_assoc]; exact nb _) (by simp only [List.length_append] at *; omega)
      have e1 : pfL c ⟨fr, to, cd, el⟩ = c ++ numL fr 0 254 ++ numL to 0 254 ++ txtL cd ++ [bitI el] := rfl
      have e2 : (lg || longF ⟨fr, to, cd, el⟩) = (lg || decide (128 < cd.size)) := rfl
      have e3 : (ag || argF ⟨fr, to, cd, el⟩) = (ag || decide (fr < 0 ∨ 254 < fr) || decide (to < 0 ∨ 254 < to)) := by unfold argF; simp only [Bool.or_assoc]
      rw [e1, e2, e3] at gn
      clear e1 e2 e3
      generalize txtL cd = t1 at *
      generalize numL fr 0 254 = t5 at *
      generalize numL to 0 254 = t6 at *
      generalize decide (128 < cd.size) = f1 at *
      generalize decide (fr < 0 ∨ 254 < fr) = f5 at *
      generalize decide (to < 0 ∨ 254 < to) = f6 at *
      have nu : ∀ t : List Int, u8s (c ++ t) ≠ [] := fun t => by simpa using fun h => by intro h2; exact nb t (by rw [h, h2]; rfl)
      have nc : u8s c ≠ [] := by simpa using nu []
      have z1 := CallG.toL 171 nc (nu _) p1
      have z2 := CallG.toL 172 (nu _) (by simp only [List.append_assoc]; exact nu _) p2
      have z3 := CallG.toL 173 (by simp only [List.append_assoc]; exact nu _) (by simp only [List.append_assoc]; exact nu _) p3
      have z7 := c_bit el
      clear p1 p2 p3 nb nu nc g hLD hAD hRB hRP hb0l hbl hb1l
      repeat' (first
 | (with_reducible refine run_n ?_; with_reducible first | refine hK _ _ (by simp) ?_ | refine hK _ _ ?_; clear hK K)
 | (refine zzc ?_)
 | (with_reducible refine awp_regT (by kernel_rfl) ?_; intro K hK)
 | (with_reducible refine awp_regAM (id := 10) [(59, some 90001), (61, some 6), (67, some 90001)] mixed (by kernel_rfl) (by kernel_rfl) ?_; intro K hK)
 | (with_reducible refine awp_regAM (id := 17) [(95, some 90001), (97, some 6), (103, some 90001)] mixed (by kernel_rfl) (by kernel_rfl) ?_; intro K hK)
 | (with_reducible refine awp_regAM (id := 26) [(132, some 90001), (134, some 8), (140, some 90001)] mixed (by kernel_rfl) (by kernel_rfl) ?_; intro K hK)
 | (with_reducible refine a_cond (ht := ?_) (hf := ?_) <;> intro hb <;> (try simp at hb) <;> (try contradiction) <;> (try subst hb) <;> (try omega))
 | (with_reducible first | refine a_move (hr:=?_) | refine a_assign (hr:=?_) | refine a_load (hr:=?_) | refine a_fieldAddr (hr:=?_) | refine a_nilCheck (hr:=?_) | refine a_bin (hr:=?_) | refine a_lenS (hr:=?_) | refine a_lenR (hr:=?_) | refine a_pick (hr:=?_) | refine a_store (hr:=?_) | refine a_box (hr:=?_) | refine a_alloc (hr:=?_) | refine a_conv (hr:=?_) | refine a_bytesStr (hr:=?_) | refine a_strBytes (hr:=?_) | refine a_sameSl (hr:=?_) | refine a_idxArr (hr:=?_) | refine a_indexAddr (hr:=?_) | refine a_build (hr:=?_) | refine a_buildSlice (hr:=?_) | refine a_append (hr:=?_) | refine a_append0 (hr:=?_) | refine a_appendX (hr:=?_) | refine a_callM (p := 90001) (k := 200000) (q := 170) (hcall := z1) (hr:=?_) | refine a_callM (p := 90001) (k := 200000) (q := 171) (hcall := z2) (hr:=?_) | refine a_callM (p := 90001) (k := 200000) (q := 172) (hcall := z3) (hr:=?_) | refine a_call0 (hcall := z7) (hr:=?_) | refine a_gT (hr:=?_) | refine a_gF (hr:=?_) | refine a_gU (hr:=?_))
 | (with_reducible refine a_gB (hT := ?_) (hF := ?_) <;> intro hb <;> (try simp at hb) <;> (try contradiction) <;> (try subst hb) <;> (try omega))
 | fail)
      exact ⟨(j + 1, _, _, _), by simp only; omega, gn, zzx 170 138 (hs := by repeat' (first | refine sub_ohp (by first | (simp; done) | (intro hne; simp at hne; simp [hne]) | (simp; (repeat' apply And.intro) <;> first | omega | exact orm _ _ | (rw [u8_full (by simp <;> omega)]; simp))) (by simp) ?_ | exact sub_hpL (by first | (simp; done) | (simp; (repeat' apply And.intro) <;> first | omega | exact orm _ _ | (rw [u8_full (by simp <;> omega)]; simp)))))⟩
    · have hj : j = d.fs.length := by omega
      have eb : d.fs.foldl pfL b1 = c := by rw [g.eq, hj, List.take_length]
      have el : lg = (long || d.fs.any longF) := by rw [g.lg, hj, List.take_length]
      have ea : ag = (arg || d.fs.any argF) := by rw [g.ag, hj, List.take_length]
      rw [← el] at hLD
      rw [← ea] at hAD
      rw [eb] at hRB
      subst hLD hAD hRB
      clear el ea eb g h
      cases ld with
      | true =>
        rw [if_pos rfl] at hRP
        subst hRP
        repeat' (first
 | (with_reducible refine run_n ?_; with_reducible first | refine hK _ _ (by simp) ?_ | refine hK _ _ ?_; clear hK K)
 | (refine zzc ?_)
 | (with_reducible refine awp_regT (by kernel_rfl) ?_; intro K hK)
 | (with_reducible refine awp_regAM (id := 10) [(59, some 90001), (61, some 6), (67, some 90001)] mixed (by kernel_rfl) (by kernel_rfl) ?_; intro K hK)
 | (with_reducible refine awp_regAM (id := 17) [(95, some 90001), (97, some 6), (103, some 90001)] mixed (by kernel_rfl) (by kernel_rfl) ?_; intro K hK)
 | (with_reducible refine awp_regAM (id := 26) [(132, some 90001), (134, some 8), (140, some 90001)] mixed (by kernel_rfl) (by kernel_rfl) ?_; intro K hK)
 | (with_reducible refine a_cond (ht := ?_) (hf := ?_) <;> intro hb <;> (try simp at hb) <;> (try contradiction) <;> (try subst hb) <;> (try omega))
 | (with_reducible first | refine a_move (hr:=?_) | refine a_assign (hr:=?_) | refine a_load (hr:=?_) | refine a_fieldAddr (hr:=?_) | refine a_nilCheck (hr:=?_) | refine a_bin (hr:=?_) | refine a_lenS (hr:=?_) | refine a_lenR (hr:=?_) | refine a_pick (hr:=?_) | refine a_store (hr:=?_) | refine a_box (hr:=?_) | refine a_alloc (hr:=?_) | refine a_conv (hr:=?_) | refine a_bytesStr (hr:=?_) | refine a_strBytes (hr:=?_) | refine a_sameSl (hr:=?_) | refine a_idxArr (hr:=?_) | refine a_indexAddr (hr:=?_) | refine a_build (hr:=?_) | refine a_buildSlice (hr:=?_) | refine a_append (hr:=?_) | refine a_append0 (hr:=?_) | refine a_appendX (hr:=?_) | refine a_gT (hr:=?_) | refine a_gF (hr:=?_) | refine a_gU (hr:=?_))
 | (with_reducible refine a_gB (hT := ?_) (hF := ?_) <;> intro hb <;> (try simp at hb) <;> (try contradiction) <;> (try subst hb) <;> (try omega))
 | fail)
        all_goals ((refine zzr hQ ?_))
        all_goals (exact zzd)
      | false =>
        rw [if_neg (by simp)] at hRP
        cases ad with
        | true =>
          rw [if_pos rfl] at hRP
          subst hRP
          repeat' (first
 | (with_reducible refine run_n ?_; with_reducible first | refine hK _ _ (by simp) ?_ | refine hK _ _ ?_; clear hK K)
 | (refine zzc ?_)
 | (with_reducible refine awp_regT (by kernel_rfl) ?_; intro K hK)
 | (with_reducible refine awp_regAM (id := 10) [(59, some 90001), (61, some 6), (67, some 90001)] mixed (by kernel_rfl) (by kernel_rfl) ?_; intro K hK)
 | (with_reducible refine awp_regAM (id := 17) [(95, some 90001), (97, some 6), (103, some 90001)] mixed (by kernel_rfl) (by kernel_rfl) ?_; intro K hK)
 | (with_reducible refine awp_regAM (id := 26) [(132, some 90001), (134, some 8), (140, some 90001)] mixed (by kernel_rfl) (by kernel_rfl) ?_; intro K hK)
 | (with_reducible refine a_cond (ht := ?_) (hf := ?_) <;> intro hb <;> (try simp at hb) <;> (try contradiction) <;> (try subst hb) <;> (try omega))
 | (with_reducible first | refine a_move (hr:=?_) | refine a_assign (hr:=?_) | refine a_load (hr:=?_) | refine a_fieldAddr (hr:=?_) | refine a_nilCheck (hr:=?_) | refine a_bin (hr:=?_) | refine a_lenS (hr:=?_) | refine a_lenR (hr:=?_) | refine a_pick (hr:=?_) | refine a_store (hr:=?_) | refine a_box (hr:=?_) | refine a_alloc (hr:=?_) | refine a_conv (hr:=?_) | refine a_bytesStr (hr:=?_) | refine a_strBytes (hr:=?_) | refine a_sameSl (hr:=?_) | refine a_idxArr (hr:=?_) | refine a_indexAddr (hr:=?_) | refine a_build (hr:=?_) | refine a_buildSlice (hr:=?_) | refine a_append (hr:=?_) | refine a_append0 (hr:=?_) | refine a_appendX (hr:=?_) | refine a_gT (hr:=?_) | refine a_gF (hr:=?_) | refine a_gU (hr:=?_))
 | (with_reducible refine a_gB (hT := ?_) (hF := ?_) <;> intro hb <;> (try simp at hb) <;> (try contradiction) <;> (try subst hb) <;> (try omega))
 | fail)
          all_goals ((refine zzr hQ ?_))
          all_goals (exact zzd)
        | false =>
          rw [if_neg (by simp)] at hRP
          subst hRP
          repeat' (first
 | (with_reducible refine run_n ?_; with_reducible first | refine hK _ _ (by simp) ?_ | refine hK _ _ ?_; clear hK K)
 | (refine zzc ?_)
 | (with_reducible refine awp_regT (by kernel_rfl) ?_; intro K hK)
 | (with_reducible refine awp_regAM (id := 10) [(59, some 90001), (61, some 6), (67, some 90001)] mixed (by kernel_rfl) (by kernel_rfl) ?_; intro K hK)
 | (with_reducible refine awp_regAM (id := 17) [(95, some 90001), (97, some 6), (103, some 90001)] mixed (by kernel_rfl) (by kernel_rfl) ?_; intro K hK)
 | (with_reducible refine awp_regAM (id := 26) [(132, some 90001), (134, some 8), (140, some 90001)] mixed (by kernel_rfl) (by kernel_rfl) ?_; intro K hK)
 | (with_reducible refine a_cond (ht := ?_) (hf := ?_) <;> intro hb <;> (try simp at hb) <;> (try contradiction) <;> (try subst hb) <;> (try omega))
 | (with_reducible first | refine a_move (hr:=?_) | refine a_assign (hr:=?_) | refine a_load (hr:=?_) | refine a_fieldAddr (hr:=?_) | refine a_nilCheck (hr:=?_) | refine a_bin (hr:=?_) | refine a_lenS (hr:=?_) | refine a_lenR (hr:=?_) | refine a_pick (hr:=?_) | refine a_store (hr:=?_) | refine a_box (hr:=?_) | refine a_alloc (hr:=?_) | refine a_conv (hr:=?_) | refine a_bytesStr (hr:=?_) | refine a_strBytes (hr:=?_) | refine a_sameSl (hr:=?_) | refine a_idxArr (hr:=?_) | refine a_indexAddr (hr:=?_) | refine a_build (hr:=?_) | refine a_buildSlice (hr:=?_) | refine a_append (hr:=?_) | refine a_append0 (hr:=?_) | refine a_appendX (hr:=?_) | refine a_gT (hr:=?_) | refine a_gF (hr:=?_) | refine a_gU (hr:=?_))
 | (with_reducible refine a_gB (hT := ?_) (hF := ?_) <;> intro hb <;> (try simp at hb) <;> (try contradiction) <;> (try subst hb) <;> (try omega))
 | fail)
          all_goals ((refine zzr hQ ?_))
          all_goals (exact Fin.frzR (by simp; exact .r) (by simp; exact .r) (by simp; exact .r) (by simp))
theorem fold_n : ∀ (ns : List NodeV) (b : List Int), (∀ n ∈ ns, argN n = false) → ns.foldl pnL b = b ++ ns.flatMap nodeL
  | [], b, _ => by simp
  | n :: ns, b, h => by
    have hn := h n List.mem_cons_self
    unfold argN at hn
    simp only [Bool.or_eq_false_iff, decide_eq_false_iff_not] at hn
    rw [List.foldl_cons, fold_n ns _ (fun x hx => h x (List.mem_cons_of_mem _ hx)), List.flatMap_cons]
    unfold pnL nodeL
    rw [num_in hn.1.2, num_in hn.2, Int.sub_neg, Int.sub_neg]
    simp only [List.append_assoc]
theorem fold_f : ∀ (fs : List FlowV) (b : List Int), (∀ f ∈ fs, argF f = false) → fs.foldl pfL b = b ++ fs.flatMap flowL
  | [], b, _ => by simp
  | f :: fs, b, h => by
    have hf := h f List.mem_cons_self
    unfold argF at hf
    simp only [Bool.or_eq_false_iff, decide_eq_false_iff_not] at hf
    rw [List.foldl_cons, fold_f fs _ (fun x hx => h x (List.mem_cons_of_mem _ hx)), List.flatMap_cons]
    unfold pfL flowL
    rw [num_in hf.1, num_in hf.2, Int.sub_zero, Int.sub_zero]
    simp only [List.append_assoc]
theorem end_def {d : DefV} (h : argD d = false) : endB d = defL d := by
  unfold argD at h
  simp only [Bool.or_eq_false_iff, List.any_eq_false, Bool.not_eq_true] at h
  unfold endB defL
  rw [fold_n _ _ h.1, fold_f _ _ h.2]
  simp only [List.append_assoc]
/-- Bytes, none where there are none. -/
def bytAV (l : List Int) : AV := if l = [] then .raw (.slice none 0 0) else .sl 1 (u8s l)
@[simp] theorem bytAV_nil : bytAV [] = .raw (.slice none 0 0) := rfl
theorem bytAV_def (d : DefV) : bytAV (defL d) = .sl 1 (u8s (defL d)) := by unfold bytAV; rw [if_neg (by simp [defL, magicL])]
theorem c_WPut (d : DefV) (h : SmD d) : CallD Try.prog 8 [defAV d] noHeap (.tup [bytAV (putD d).1, .raw (.int .i64 (putD d).2)]) noHeap := by
  by_cases h1 : 40 < d.ns.length ∨ 80 < d.fs.length
  · rw [show putD d = ([], 3) from if_pos (Or.inl h1), bytAV_nil]
    have b1 := h.ln
    have b2 := h.lf
    clear h
    rcases Nat.lt_or_ge 40 d.ns.length with h2 | h2
    · refine zzg (nt := 156) (rs := [.tmp 2, .tmp 3]) Try.func8 ?_; intro Q hQ hW
      repeat' (first
 | (with_reducible refine run_n ?_; with_reducible first | refine hK _ _ (by simp) ?_ | refine hK _ _ ?_; clear hK K)
 | (refine zzc ?_)
 | (with_reducible refine awp_regT (by kernel_rfl) ?_; intro K hK)
 | (with_reducible refine awp_regAM (id := 10) [(59, some 22), (61, some 6), (67, some 22)] mixed (by kernel_rfl) (by kernel_rfl) ?_; intro K hK)
 | (with_reducible refine awp_regAM (id := 17) [(95, some 22), (97, some 6), (103, some 22)] mixed (by kernel_rfl) (by kernel_rfl) ?_; intro K hK)
 | (with_reducible refine awp_regAM (id := 26) [(132, some 22), (134, some 8), (140, some 22)] mixed (by kernel_rfl) (by kernel_rfl) ?_; intro K hK)
 | (with_reducible first | refine a_move (hr:=?_) | refine a_assign (hr:=?_) | refine a_load (hr:=?_) | refine a_fieldAddr (hr:=?_) | refine a_nilCheck (hr:=?_) | refine a_bin (hr:=?_) | refine a_lenS (hr:=?_) | refine a_lenR (hr:=?_) | refine a_pick (hr:=?_) | refine a_store (hr:=?_) | refine a_box (hr:=?_) | refine a_alloc (hr:=?_) | refine a_conv (hr:=?_) | refine a_bytesStr (hr:=?_) | refine a_strBytes (hr:=?_) | refine a_sameSl (hr:=?_) | refine a_idxArr (hr:=?_) | refine a_indexAddr (hr:=?_) | refine a_build (hr:=?_) | refine a_buildSlice (hr:=?_) | refine a_append (hr:=?_) | refine a_append0 (hr:=?_) | refine a_appendX (hr:=?_) | refine a_gT (hr:=?_) | refine a_gF (hr:=?_) | refine a_gU (hr:=?_))
 | (with_reducible refine a_gB (hT := ?_) (hF := ?_) <;> intro hb <;> (try simp at hb) <;> (try contradiction) <;> (try subst hb) <;> (try omega))
 | fail)
      repeat' (first
 | (with_reducible refine run_n ?_; with_reducible first | refine hK _ _ (by simp) ?_ | refine hK _ _ ?_; clear hK K)
 | (refine zzc ?_)
 | (with_reducible refine awp_regT (by kernel_rfl) ?_; intro K hK)
 | (with_reducible refine awp_regAM (id := 10) [(59, some 22), (61, some 6), (67, some 22)] mixed (by kernel_rfl) (by kernel_rfl) ?_; intro K hK)
 | (with_reducible refine awp_regAM (id := 17) [(95, some 22), (97, some 6), (103, some 22)] mixed (by kernel_rfl) (by kernel_rfl) ?_; intro K hK)
 | (with_reducible refine awp_regAM (id := 26) [(132, some 22), (134, some 8), (140, some 22)] mixed (by kernel_rfl) (by kernel_rfl) ?_; intro K hK)
 | (with_reducible refine a_cond (ht := ?_) (hf := ?_) <;> intro hb <;> (try simp at hb) <;> (try contradiction) <;> (try subst hb) <;> (try omega))
 | (with_reducible first | refine a_move (hr:=?_) | refine a_assign (hr:=?_) | refine a_load (hr:=?_) | refine a_fieldAddr (hr:=?_) | refine a_nilCheck (hr:=?_) | refine a_bin (hr:=?_) | refine a_lenS (hr:=?_) | refine a_lenR (hr:=?_) | refine a_pick (hr:=?_) | refine a_store (hr:=?_) | refine a_box (hr:=?_) | refine a_alloc (hr:=?_) | refine a_conv (hr:=?_) | refine a_bytesStr (hr:=?_) | refine a_strBytes (hr:=?_) | refine a_sameSl (hr:=?_) | refine a_idxArr (hr:=?_) | refine a_indexAddr (hr:=?_) | refine a_build (hr:=?_) | refine a_buildSlice (hr:=?_) | refine a_append (hr:=?_) | refine a_append0 (hr:=?_) | refine a_appendX (hr:=?_) | refine a_gT (hr:=?_) | refine a_gF (hr:=?_) | refine a_gU (hr:=?_))
 | (with_reducible refine a_gB (hT := ?_) (hF := ?_) <;> intro hb <;> (try simp at hb) <;> (try contradiction) <;> (try subst hb) <;> (try omega))
 | fail)
      all_goals ((refine zzr hQ ?_))
      all_goals (exact zzd)
    · have h3 : 80 < d.fs.length := by omega
      refine zzg (nt := 156) (rs := [.tmp 2, .tmp 3]) Try.func8 ?_; intro Q hQ hW
      repeat' (first
 | (with_reducible refine run_n ?_; with_reducible first | refine hK _ _ (by simp) ?_ | refine hK _ _ ?_; clear hK K)
 | (refine zzc ?_)
 | (with_reducible refine awp_regT (by kernel_rfl) ?_; intro K hK)
 | (with_reducible refine awp_regAM (id := 10) [(59, some 22), (61, some 6), (67, some 22)] mixed (by kernel_rfl) (by kernel_rfl) ?_; intro K hK)
 | (with_reducible refine awp_regAM (id := 17) [(95, some 22), (97, some 6), (103, some 22)] mixed (by kernel_rfl) (by kernel_rfl) ?_; intro K hK)
 | (with_reducible refine awp_regAM (id := 26) [(132, some 22), (134, some 8), (140, some 22)] mixed (by kernel_rfl) (by kernel_rfl) ?_; intro K hK)
 | (with_reducible first | refine a_move (hr:=?_) | refine a_assign (hr:=?_) | refine a_load (hr:=?_) | refine a_fieldAddr (hr:=?_) | refine a_nilCheck (hr:=?_) | refine a_bin (hr:=?_) | refine a_lenS (hr:=?_) | refine a_lenR (hr:=?_) | refine a_pick (hr:=?_) | refine a_store (hr:=?_) | refine a_box (hr:=?_) | refine a_alloc (hr:=?_) | refine a_conv (hr:=?_) | refine a_bytesStr (hr:=?_) | refine a_strBytes (hr:=?_) | refine a_sameSl (hr:=?_) | refine a_idxArr (hr:=?_) | refine a_indexAddr (hr:=?_) | refine a_build (hr:=?_) | refine a_buildSlice (hr:=?_) | refine a_append (hr:=?_) | refine a_append0 (hr:=?_) | refine a_appendX (hr:=?_) | refine a_gT (hr:=?_) | refine a_gF (hr:=?_) | refine a_gU (hr:=?_))
 | (with_reducible refine a_gB (hT := ?_) (hF := ?_) <;> intro hb <;> (try simp at hb) <;> (try contradiction) <;> (try subst hb) <;> (try omega))
 | fail)
      repeat' (first
 | (with_reducible refine run_n ?_; with_reducible first | refine hK _ _ (by simp) ?_ | refine hK _ _ ?_; clear hK K)
 | (refine zzc ?_)
 | (with_reducible refine awp_regT (by kernel_rfl) ?_; intro K hK)
 | (with_reducible refine awp_regAM (id := 10) [(59, some 22), (61, some 6), (67, some 22)] mixed (by kernel_rfl) (by kernel_rfl) ?_; intro K hK)
 | (with_reducible refine awp_regAM (id := 17) [(95, some 22), (97, some 6), (103, some 22)] mixed (by kernel_rfl) (by kernel_rfl) ?_; intro K hK)
 | (with_reducible refine awp_regAM (id := 26) [(132, some 22), (134, some 8), (140, some 22)] mixed (by kernel_rfl) (by kernel_rfl) ?_; intro K hK)
 | (with_reducible refine a_cond (ht := ?_) (hf := ?_) <;> intro hb <;> (try simp at hb) <;> (try contradiction) <;> (try subst hb) <;> (try omega))
 | (with_reducible first | refine a_move (hr:=?_) | refine a_assign (hr:=?_) | refine a_load (hr:=?_) | refine a_fieldAddr (hr:=?_) | refine a_nilCheck (hr:=?_) | refine a_bin (hr:=?_) | refine a_lenS (hr:=?_) | refine a_lenR (hr:=?_) | refine a_pick (hr:=?_) | refine a_store (hr:=?_) | refine a_box (hr:=?_) | refine a_alloc (hr:=?_) | refine a_conv (hr:=?_) | refine a_bytesStr (hr:=?_) | refine a_strBytes (hr:=?_) | refine a_sameSl (hr:=?_) | refine a_idxArr (hr:=?_) | refine a_indexAddr (hr:=?_) | refine a_build (hr:=?_) | refine a_buildSlice (hr:=?_) | refine a_append (hr:=?_) | refine a_append0 (hr:=?_) | refine a_appendX (hr:=?_) | refine a_gT (hr:=?_) | refine a_gF (hr:=?_) | refine a_gU (hr:=?_))
 | (with_reducible refine a_gB (hT := ?_) (hF := ?_) <;> intro hb <;> (try simp at hb) <;> (try contradiction) <;> (try subst hb) <;> (try omega))
 | fail)
      all_goals ((refine zzr hQ ?_))
      all_goals (exact zzd)
  · have q := c_PutM d h h1
    unfold endP at q
    unfold putD
    by_cases h2 : longD d = true
    · rw [if_pos h2] at q
      rw [if_pos (Or.inr h2)]
      exact q
    · rw [if_neg h2] at q
      rw [if_neg (by simp only [not_or]; exact ⟨by simpa using h1, h2⟩)]
      by_cases h3 : argD d = true
      · rw [if_pos h3] at q
        rw [if_pos h3]
        exact q
      · rw [if_neg h3, end_def (by simpa using h3)] at q
        rw [if_neg h3, bytAV_def]
        exact q
end Go.Proofs.Ytejeemhenoobjaa.Asl

