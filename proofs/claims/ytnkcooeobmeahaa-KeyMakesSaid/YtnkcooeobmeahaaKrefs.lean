/- Keys as the document has them: first, Parse, part, Make. -/
import Derived.Test.YtnkcooeobmeahaaZ15
import Derived.Test.YtnkcooeobmeahaaZ16
import Derived.Test.YtnkcooeobmeahaaKparse
namespace Go.Proofs.Ytnkcooeobmeahaa.K3
open Go.RowKit Go.Proofs.Ytnkcooeobmeahaa.Z Go.Proofs.YtnkcooeobmeahaaW.PrintWords Go.Proofs.YtnkcooeobmeahaaW.PrintLast Go.Proofs.YtnkcooeobmeahaaW.PrintMore Go.Proofs.Ytnkcooeobmeahaa.PB
set_option linter.unusedVariables false
set_option linter.unusedSimpArgs false
def fsR (o : Option (List Int × List Int)) : ByteArray × ByteArray × Bool := match o with | some (p, r) => (strOfNums p, strOfNums r, true) | none => (⟨#[]⟩, ⟨#[]⟩, false)
theorem ev_first_l0 (s : ByteArray) (hs : s.size ≤ 1000000) : ∀ (n i : Nat) (now : List Int), s.size - i ≤ n → i ≤ s.size + 2 → now.length ≤ i → Ev (fun k => conductorref03_first.l0 k s now (i : Int)) (fsR (fs ((bytesOf s).drop i) now)) := by
  intro n
  induction n with
  | zero =>
    intro i now hn hi2 hnow
    refine ev_none (fun k => ?_)
    have e1 : ¬ wrap64 ((i : Int) + 1) < (s.size : Int) := by unfold wrap64; omega
    simp only [conductorref03_first.l0]
    rw [if_neg e1, List.drop_eq_nil_of_le (by rw [len_bytes]; omega), fs_nil]; rfl
  | succ n ih =>
    intro i now hn hi2 hnow
    by_cases hlt : i + 1 < s.size
    · have e1 : wrap64 ((i : Int) + 1) = ((i + 1 : Nat) : Int) := by rw [w64 (by omega) (by omega)]; omega
      have e2 : wrap64 (((i + 1 : Nat) : Int) + 1) = ((i + 2 : Nat) : Int) := by rw [w64 (by omega) (by omega)]; omega
      have e3 : wrap64 ((i : Int) + 2) = ((i + 2 : Nat) : Int) := by rw [w64 (by omega) (by omega)]; omega
      rw [drop_bt s i (by omega)]
      by_cases h0 : bt s (i : Int) = 0
      · rw [h0, drop_bt s (i + 1) hlt, fs_zero]
        by_cases h1 : bt s ((i + 1 : Nat) : Int) = 1
        · rw [if_pos h1]
          refine ev_none (fun k => ?_)
          simp only [conductorref03_first.l0, e1, e3]
          rw [if_pos (by omega), if_pos (by omega), if_pos (by omega), if_pos h0, if_pos (by omega), if_pos h1, if_pos (by omega), if_pos (by omega)]
          simp only [fsR, Int.toNat_natCast]
          congr 3
          apply bytes_inj
          rw [bytes_extract, bytes_of_nums (isB_drop (isB_bytes s) _), List.take_of_length_le (by rw [List.length_drop, len_bytes]; omega)]
        · rw [if_neg h1]
          by_cases h2 : bt s ((i + 1 : Nat) : Int) = 255
          · rw [if_pos h2]
            refine ev_step _ (fun k => ?_) (ih (i + 2) (now ++ [0]) (by omega) (by omega) (by simp; omega))
            simp only [conductorref03_first.l0, e1, e2, e3]
            rw [if_pos (by omega), if_pos (by omega), if_pos (by omega), if_pos h0, if_pos (by omega), if_neg h1, if_pos h2, if_pos (by omega)]
          · rw [if_neg h2]
            refine ev_none (fun k => ?_)
            simp only [conductorref03_first.l0, e1, e2, e3]
            rw [if_pos (by omega), if_pos (by omega), if_pos (by omega), if_pos h0, if_pos (by omega), if_neg h1, if_neg h2]
            rfl
      · rw [fs_cons' _ _ h0]
        refine ev_step _ (fun k => ?_) (ih (i + 1) (now ++ [bt s (i : Int)]) (by omega) (by omega) (by simp; omega))
        simp only [conductorref03_first.l0, e1]
        rw [if_pos (by omega), if_pos (by omega), if_pos (by omega), if_neg h0, if_pos (by omega)]
    · refine ev_none (fun k => ?_)
      have e1 : ¬ wrap64 ((i : Int) + 1) < (s.size : Int) := by rw [w64 (by omega) (by omega)]; omega
      simp only [conductorref03_first.l0]
      rw [if_neg e1]
      by_cases h : i < s.size
      · rw [drop_bt s i h, List.drop_eq_nil_of_le (by rw [len_bytes]; omega), fs_one]; rfl
      · rw [List.drop_eq_nil_of_le (by rw [len_bytes]; omega), fs_nil]; rfl
theorem ev_first (s : ByteArray) (hs : s.size ≤ 1000000) : Ev (fun k => conductorref03_first.f k s) (fsR (fs (bytesOf s) [])) :=
  ev_first_l0 s hs s.size 0 [] (by omega) (by omega) (by simp)
theorem ev_rparse_l0 (s0 : ByteArray) (h1 : 1 ≤ s0.size) (kind : Int) (hk : bt s0 0 = kind) : ∀ (n : Nat) (s : ByteArray) (out : List (List Int)), s.size ≤ n → s.size + out.length ≤ 1000000 →
    Ev (fun k => conductorref03_Parse.l0 k s0 (out.map strOfNums) s) (psR kind ((pk (bytesOf s)).map fun ps => out ++ ps)) := by
  intro n
  induction n with
  | zero =>
    intro s out hn hb
    have : bytesOf s = [] := List.length_eq_zero_iff.1 (by rw [len_bytes]; omega)
    refine ev_none (fun k => ?_)
    simp only [conductorref03_Parse.l0]
    rw [if_pos (toList_nil.2 (by omega)), if_pos (by omega), this, pk_nil, hk]
    simp [psR]
  | succ n ih =>
    intro s out hn hb
    by_cases h0 : s.size = 0
    · exact ih s out (by omega) hb
    · have hne : ¬ bytesOf s = [] := fun e => h0 (by rw [← len_bytes, e]; rfl)
      have hnt : ¬ s.toList = [] := fun e => h0 (toList_nil.1 e)
      cases hf : fs (bytesOf s) [] with
      | none =>
        have hfi := ev_first s (by omega)
        rw [hf] at hfi
        rw [pk_none hne hf]
        refine ev_step _ (fun k => ?_) (Ev.bind hfi (f := fun k bt204 => if bt204.2.2 = true then (if (out.map strOfNums).length < 8796093022208 then (conductorref03_Parse.l0 k s0 (out.map strOfNums ++ [bt204.1]) bt204.2.1) else none) else (some (0, ([] : List ByteArray), 31))) ?_)
        · simp only [conductorref03_Parse.l0]
          rw [if_neg hnt]
        · simp only [fsR]
          exact Ev.now _
      | some x =>
        obtain ⟨p, r⟩ := x
        have hfi := ev_first s (by omega)
        rw [hf] at hfi
        have hl := fs_len _ _ _ _ _ (Nat.le_refl _) hf
        rw [len_bytes] at hl
        have hB := fs_isB _ _ _ _ _ (Nat.le_refl _) (isB_bytes s) isB_nil hf
        have := ih (strOfNums r) (out ++ [p]) (by rw [size_of_nums]; omega) (by rw [size_of_nums]; simp; omega)
        rw [bytes_of_nums hB.2] at this
        rw [pk_some hne hf]
        refine ev_step _ (fun k => ?_) (Ev.bind hfi (f := fun k bt204 => if bt204.2.2 = true then (if (out.map strOfNums).length < 8796093022208 then (conductorref03_Parse.l0 k s0 (out.map strOfNums ++ [bt204.1]) bt204.2.1) else none) else (some (0, ([] : List ByteArray), 31))) ?_)
        · simp only [conductorref03_Parse.l0]
          rw [if_neg hnt]
        · simp only [fsR, if_true, if_pos (show (out.map strOfNums).length < 8796093022208 by rw [List.length_map]; omega)]
          refine ev_eq (ev_mono this (by funext k; rw [List.map_append]; rfl)) ?_
          obtain ⟨o, hoe⟩ : ∃ o, pk r = o := ⟨_, rfl⟩
          rw [hoe]
          cases o <;> simp [psR]
theorem ev_rparse (s : ByteArray) (hs : s.size ≤ 1000000) : Ev (fun k => conductorref03_Parse.f k s) (if s.size = 0 then (0, [], 31) else psR (bt s 0) (pk ((bytesOf s).drop 1))) := by
  unfold conductorref03_Parse.f
  by_cases h : s.size = 0
  · rw [if_pos h]
    simp only [if_pos (toList_nil.2 h)]
    exact Ev.now _
  · rw [if_neg h]
    simp only [if_neg (fun e => h (toList_nil.1 e)), if_pos (show 1 ≤ (s.size : Int) by omega)]
    have e : bytesOf (s.extract 1 s.size) = (bytesOf s).drop 1 := by rw [bytes_extract, List.take_of_length_le (by rw [List.length_drop, len_bytes]; omega)]
    have es : (s.extract 1 s.size).size ≤ s.size := by rw [← len_bytes, e, List.length_drop, len_bytes]; omega
    have := ev_rparse_l0 s (by omega) _ rfl _ (s.extract 1 s.size) [] (Nat.le_refl _) (by simp; omega)
    rw [e] at this
    refine ev_eq this ?_
    cases pk (List.drop 1 (bytesOf s)) <;> simp
theorem ev_part_l0 (s : ByteArray) (hs : s.size ≤ 1000000) : ∀ (m i : Nat) (x : List Int), i + m = s.size → x.length ≤ 2 * i → IsB x → Ev (fun k => conductorref03_part.l0 k s x (s.size : Int) (i : Int)) (strOfNums (x ++ encP ((bytesOf s).drop i)))
  | 0, i, x, hi, hx, hB => by
    refine ev_none (fun k => ?_)
    simp only [conductorref03_part.l0]
    rw [if_neg (by omega), List.drop_eq_nil_of_le (by rw [len_bytes]; omega)]
    simp only [Option.bind_some]
    rw [if_pos (by simp only [List.length_cons, List.length_nil]; omega)]
    rfl
  | m + 1, i, x, hi, hx, hB => by
    have e1 : wrap64 ((i : Int) + 1) = ((i + 1 : Nat) : Int) := by rw [w64 (by omega) (by omega)]; omega
    have hb := bt_bound s (i : Int)
    rw [drop_bt s i (by omega)]
    by_cases h0 : bt s (i : Int) = 0
    · refine ev_step _ (fun k => ?_) (ev_eq (ev_part_l0 s hs m (i + 1) (x ++ [bt s (i : Int)] ++ [255]) (by omega) (by simp; omega) (isB_app.2 ⟨isB_app.2 ⟨hB, isB_cons.2 ⟨hb, isB_nil⟩⟩, isB_cons.2 ⟨by omega, isB_nil⟩⟩)) ?_)
      · simp only [conductorref03_part.l0]
        rw [if_pos (by omega), if_pos (by omega), if_pos (by omega), if_pos (by omega)]
        simp only [Option.bind_some]
        rw [if_pos h0, if_pos (by simp; omega), e1]
      · rw [h0]; simp [encP, esc, List.append_assoc]
    · refine ev_step _ (fun k => ?_) (ev_eq (ev_part_l0 s hs m (i + 1) (x ++ [bt s (i : Int)]) (by omega) (by simp; omega) (isB_app.2 ⟨hB, isB_cons.2 ⟨hb, isB_nil⟩⟩)) ?_)
      · simp only [conductorref03_part.l0]
        rw [if_pos (by omega), if_pos (by omega), if_pos (by omega), if_pos (by omega)]
        simp only [Option.bind_some]
        rw [if_neg h0, e1]
      · simp [encP, esc, h0, List.append_assoc]
theorem ev_part (s : ByteArray) (hs : s.size ≤ 1000000) : Ev (fun k => conductorref03_part.f k s) (strOfNums (encP (bytesOf s))) :=
  ev_part_l0 s hs s.size 0 [] (by omega) (by simp) isB_nil
theorem ev_rmake_l0 (ls : List ByteArray) (hl : ls.length ≤ 1000) (hs : ∀ s ∈ ls, s.size ≤ 1000000) : ∀ (m j : Nat) (x : List Int), j + m = ls.length → IsB x → x.length ≤ 1 + 2000002 * j →
    Ev (fun k => conductorref03_Make.l0 k (strOfNums x) ls (ls.length : Int) (j : Int)) (strOfNums (x ++ (ls.drop j).flatMap fun s => encP (bytesOf s)))
  | 0, j, x, hj, hB, hx => by
    refine ev_none (fun k => ?_)
    simp only [conductorref03_Make.l0]
    rw [if_neg (by omega), List.drop_eq_nil_of_le (by omega)]
    simp
  | m + 1, j, x, hj, hB, hx => by
    have hjl : j < ls.length := by omega
    have e1 : wrap64 ((j : Int) + 1) = ((j + 1 : Nat) : Int) := by rw [w64 (by omega) (by omega)]; omega
    rw [drop_rdOf ByteArray.empty ls j hjl]
    obtain ⟨s, hse⟩ : ∃ s, rdOf ByteArray.empty ls (j : Int) = s := ⟨_, rfl⟩
    have hmem : s ∈ ls := by rw [← hse, rdOf_nat _ _ _ hjl]; exact List.getElem_mem hjl
    have hsz := hs s hmem
    have hel : (encP (bytesOf s)).length ≤ 2 * s.size + 2 := by have := encP_len (bytesOf s); rw [len_bytes] at this; exact this
    have hE : IsB (encP (bytesOf s)) := encP_isB (isB_bytes s)
    have ih := ev_rmake_l0 ls hl hs m (j + 1) (x ++ encP (bytesOf s)) (by omega) (isB_app.2 ⟨hB, hE⟩) (by rw [List.length_append]; omega)
    have ej : strOfNums x ++ strOfNums (encP (bytesOf s)) = strOfNums (x ++ encP (bytesOf s)) := by
      apply bytes_inj
      rw [bytes_app, bytes_of_nums hB, bytes_of_nums hE, bytes_of_nums (isB_app.2 ⟨hB, hE⟩)]
    refine ev_step (fun k => (conductorref03_part.f k s).bind fun t => if (strOfNums x).size + t.size ≤ 9223372036854775807 then conductorref03_Make.l0 k (strOfNums x ++ t) ls (ls.length : Int) (wrap64 ((j : Int) + 1)) else none) (fun k => ?_) (Ev.bind (ev_part s hsz) ?_)
    · simp only [conductorref03_Make.l0, hse]
      rw [if_pos (by omega), if_pos (by omega), if_pos (by omega)]
    · simp only [size_of_nums, ej, e1]
      simp only [if_pos (show x.length + (encP (bytesOf s)).length ≤ 9223372036854775807 by omega)]
      refine ev_eq ih ?_
      rw [hse]; simp [List.append_assoc]
theorem ev_rmake (kind : Int) (hk : 0 ≤ kind ∧ kind ≤ 255) (ls : List ByteArray) (hl : ls.length ≤ 1000) (hs : ∀ s ∈ ls, s.size ≤ 1000000) : Ev (fun k => conductorref03_Make.f k kind ls) (strOfNums (mkKey kind (ls.map bytesOf))) := by
  refine ev_eq (ev_rmake_l0 ls hl hs ls.length 0 [kind] (by omega) (isB_cons.2 ⟨hk, isB_nil⟩) (by simp)) ?_
  rw [List.drop_zero]
  simp [mkKey, List.flatMap_map]
end Go.Proofs.Ytnkcooeobmeahaa.K3
