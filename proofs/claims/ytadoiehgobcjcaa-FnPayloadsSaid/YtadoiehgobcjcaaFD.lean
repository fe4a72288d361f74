/- Plain laws of frames read back from their bytes, in the words of the walks. No conditions. -/
import Derived.Test.YtadoiehgobcjcaaR9
import Derived.Test.YtadoiehgobcjcaaA4
namespace Go.Proofs.Ytadoiehgobcjcaa
open Go.ChangeShapes Go.WideShapes Go.ChangeAt Go.RowKit Go.Sort QM
set_option linter.unusedVariables false
set_option linter.unusedSimpArgs false
theorem encL_none : encL [] = ⟨#[]⟩ := by simp [encL, jnF]
theorem rdN_enc : ∀ (L : List Int) (a t : ByteArray), L.all qB = true → rdN (a ++ (encL L ++ t)) L.length (a.size : Int) = some (L, ((a.size + (encL L).size : Nat) : Int)) := by
  intro L
  induction L with
  | nil => intro a t _; simp only [List.length_nil, rdN, encL_none]; rfl
  | cons x L ih =>
    intro a t h
    simp only [List.all_cons, Bool.and_eq_true] at h
    obtain ⟨hx, hL⟩ := h
    have hs : a ++ (encL (x :: L) ++ t) = a ++ (encI x ++ (encL L ++ t)) := by rw [encL_cons hx hL, app_assoc]
    have hd := dq_encI a (encL L ++ t) hx
    have hs2 : a ++ (encI x ++ (encL L ++ t)) = (a ++ encI x) ++ (encL L ++ t) := by rw [app_assoc]
    have hi := ih (a ++ encI x) t hL
    rw [hs]
    simp only [List.length_cons, rdN]
    rw [hd]
    simp only
    rw [hs2, show ((a.size : Int) + ((encI x).size : Int)) = (((a ++ encI x).size : Nat) : Int) by rw [ByteArray.size_append]; push_cast; rfl, hi]
    have hx0 : ((x.toNat : Nat) : Int) = x := by have := (qB_true hx).1; omega
    simp only [Option.map_some, hx0]
    rw [encL_cons hx hL, ByteArray.size_append, ByteArray.size_append, Nat.add_assoc]
theorem frO_enc (a r : ByteArray) (k : Nat) (hk : k < 256) : frO (a ++ (one1 k ++ r)) (a.size : Int) = rfK (a ++ (one1 k ++ r)) k (((a ++ one1 k).size : Nat) : Int) := by
  have h1 := one1_size k
  have hlt : a.size < (a ++ (one1 k ++ r)).size := by rw [ByteArray.size_append, ByteArray.size_append]; omega
  unfold frO
  rw [if_pos (by omega), Int.toNat_natCast]
  have hb : ((bl (a ++ (one1 k ++ r))).getD a.size 0).toNat = k := by
    rw [bl_app, bl_app, ← bl_len a]
    have e : bl (one1 k) = [UInt8.ofNat k] := by simp [bl, one1]
    rw [e, List.getD_eq_getElem?_getD, List.getElem?_append_right (Nat.le_refl _), Nat.sub_self]
    show ((UInt8.ofNat k)).toNat = k
    rw [ofNat_toNat]; omega
  rw [hb]
  congr 1
  rw [ByteArray.size_append, h1]
  push_cast
  rfl
theorem eqFb_true {a b c : Int} {d : ByteArray} {e : Bool} {g l m : Int} {u : Bool} {a' b' c' : Int} {d' : ByteArray} {e' : Bool} {g' l' m' : Int} {u' : Bool} (h : eqFb a b c d e g l m u a' b' c' d' e' g' l' m' u' = true) : a = a' ∧ b = b' ∧ c = c' ∧ d = d' ∧ e = e' ∧ g = g' ∧ l = l' ∧ m = m' ∧ u = u' := by
  simp only [eqFb, Bool.and_eq_true, beq_iff_eq] at h
  obtain ⟨h0, h1, h2, h3, h4, h5, h6, h7, h8⟩ := h
  exact ⟨h0, h1, h2, ByteArray.ext (by
    have := h3
    rw [ByteArray.toList_eq, ByteArray.toList_eq] at this
    exact Array.ext' this), h4, h5, h6, h7, h8⟩
theorem ext_mid (x d t : ByteArray) : (x ++ (d ++ t)).extract x.size (x.size + d.size) = d := by
  apply ByteArray.ext
  rw [ByteArray.data_extract, ByteArray.data_append, ByteArray.data_append]
  apply Array.ext'
  have e : x.size = x.data.toList.length := by rw [Array.length_toList]; rfl
  have e2 : d.size = d.data.toList.length := by rw [Array.length_toList]; rfl
  rw [Array.toList_extract, Array.toList_append, Array.toList_append, List.extract_eq_drop_take', e, e2]
  simp [List.take_append]
theorem st_enc (s a t d : ByteArray) (fin off : Bool) (L : List Int) (hL : L.all qB = true) (hlen : L.length = if off then 2 else 1) (hq : qB (d.size : Int) = true)
    (hs : s = a ++ (encL L ++ (encI (d.size : Int) ++ (d ++ t)))) :
    stO s fin off true (a.size : Int) = some (⟨8, L.getD 0 0, if off then L.getD 1 0 else 0, d, fin, 0, 0, 0, false⟩, ((a.size + (encL L).size + (encI (d.size : Int)).size + d.size : Nat) : Int)) := by
  have h1 := rdN_enc L a (encI (d.size : Int) ++ (d ++ t)) hL
  have h2 : dq s (((a ++ encL L).size : Nat) : Int) = some ((d.size : Int).toNat, (encI (d.size : Int)).size) := by
    rw [hs, ← app_assoc a]; exact dq_encI (a ++ encL L) (d ++ t) hq
  have hz : s.size = a.size + (encL L).size + (encI (d.size : Int)).size + d.size + t.size := by
    rw [hs]; simp only [ByteArray.size_append]; omega
  rw [← hs, hlen] at h1
  rw [ByteArray.size_append] at h2
  unfold stO
  rw [h1]
  simp only [if_true]
  rw [h2]
  simp only [Int.toNat_natCast]
  rw [if_neg (by omega)]
  have hx : s.extract (a.size + (encL L).size + (encI (d.size : Int)).size) (a.size + (encL L).size + (encI (d.size : Int)).size + d.size) = d := by
    have := ext_mid (a ++ (encL L ++ encI (d.size : Int))) d t
    rw [ByteArray.size_append, ByteArray.size_append] at this
    rw [hs, show a ++ (encL L ++ (encI (d.size : Int) ++ (d ++ t))) = (a ++ (encL L ++ encI (d.size : Int))) ++ (d ++ t) by simp only [app_assoc], show a.size + (encL L).size + (encI (d.size : Int)).size = a.size + ((encL L).size + (encI (d.size : Int)).size) by omega]
    exact this
  rw [hx]
  push_cast
  rfl
/-- A frame's bytes behind a and ahead of t are read back. -/
theorem frO_frame (a t : ByteArray) (f : Fr) (h : okF f = true) : frO (a ++ (encOf f ++ t)) (a.size : Int) = some (f, ((a.size + (encOf f).size : Nat) : Int)) := by
  obtain ⟨fa, b, c, d, e, g, l, m, u⟩ := f
  have hf : isFB fa b c d e g l m u = true := h
  show frO (a ++ (encFB fa b c d e g l m u ++ t)) (a.size : Int) = some (_, ((a.size + (encFB fa b c d e g l m u).size : Nat) : Int))
  rcases kind_cases fa with rfl | rfl | rfl | rfl | rfl | rfl | rfl | rfl | rfl | hn
  · have hx := hf
    rw [isFB_4] at hx
    simp only [Bool.and_eq_true] at hx
    obtain ⟨he, h1, h2, h3⟩ := hx
    obtain ⟨-, -, rfl, rfl, rfl, -, rfl, -, rfl⟩ := eqFb_true he
    have hL : [b, g, m].all qB = true := by simp [h1, h2, h3]
    have hr := rdN_enc [b, g, m] (a ++ one1 4) t hL
    rw [encFB_4 b 0 ⟨#[]⟩ false g 0 m false hf, ← iform_4 b 0 ⟨#[]⟩ false g 0 m false hf, app_assoc (one1 4), frO_enc a _ 4 (by decide)]
    show ((rdN (a ++ (one1 4 ++ (encL [b, g, m] ++ t))) 3 _).map _) = _
    rw [← app_assoc a, show (3 : Nat) = [b, g, m].length from rfl, hr]
    simp only [Option.map_some, ByteArray.size_append]
    rw [Nat.add_assoc]
    rfl
  · have hx := hf
    rw [isFB_5] at hx
    simp only [Bool.and_eq_true] at hx
    obtain ⟨he, h1, h2⟩ := hx
    obtain ⟨-, -, rfl, rfl, rfl, -, rfl, rfl, rfl⟩ := eqFb_true he
    have hL : [b, g].all qB = true := by simp [h1, h2]
    have hr := rdN_enc [b, g] (a ++ one1 5) t hL
    rw [encFB_5 b 0 ⟨#[]⟩ false g 0 0 false hf, ← iform_5 b 0 ⟨#[]⟩ false g 0 0 false hf, app_assoc (one1 5), frO_enc a _ 5 (by decide)]
    show ((rdN (a ++ (one1 5 ++ (encL [b, g] ++ t))) 2 _).map _) = _
    rw [← app_assoc a, show (2 : Nat) = [b, g].length from rfl, hr]
    simp only [Option.map_some, ByteArray.size_append]
    rw [Nat.add_assoc]
    rfl
  · have hx := hf
    rw [isFB_8] at hx
    simp only [Bool.and_eq_true] at hx
    obtain ⟨he, h1, h2, h3, _⟩ := hx
    obtain ⟨-, -, -, -, -, rfl, rfl, rfl, rfl⟩ := eqFb_true he
    have h3' : qB (d.size : Int) = true := by simp at h3; exact qB_in (by omega) (by omega)
    have hL1 : [b].all qB = true := by simp [h1]
    have hL2 : [b, c].all qB = true := by simp [h1, h2]
    have eL1 := encL_one h1
    have eL2 : encL [b, c] = encI b ++ encI c := by rw [encL_cons h1 (by simp [h2]), encL_one h2]
    cases hc : (c == 0)
    · cases e
      · rw [encFB_8e0c0 b c d 0 0 0 false hf hc, ← iform_8e0c0 b c d 0 0 0 false hf]
        have hz := st_enc (a ++ (((one1 14 ++ encI b) ++ encI c ++ encI (d.size : Int)) ++ d ++ t)) (a ++ one1 14) t d false true [b, c] hL2 rfl h3' (by rw [eL2]; simp only [app_assoc])
        rw [show a ++ (((one1 14 ++ encI b) ++ encI c ++ encI (d.size : Int)) ++ d ++ t) = a ++ (one1 14 ++ (encI b ++ (encI c ++ (encI (d.size : Int) ++ (d ++ t))))) by simp only [app_assoc]] at hz ⊢
        rw [frO_enc a _ 14 (by decide)]
        refine hz.trans ?_
        rw [eL2]
        simp only [ByteArray.size_append, List.getD_cons_zero, List.getD_cons_succ, if_true]
        congr 2
        push_cast
        omega
      · rw [encFB_8e1c0 b c d 0 0 0 false hf hc, ← iform_8e1c0 b c d 0 0 0 false hf]
        have hz := st_enc (a ++ (((one1 15 ++ encI b) ++ encI c ++ encI (d.size : Int)) ++ d ++ t)) (a ++ one1 15) t d true true [b, c] hL2 rfl h3' (by rw [eL2]; simp only [app_assoc])
        rw [show a ++ (((one1 15 ++ encI b) ++ encI c ++ encI (d.size : Int)) ++ d ++ t) = a ++ (one1 15 ++ (encI b ++ (encI c ++ (encI (d.size : Int) ++ (d ++ t))))) by simp only [app_assoc]] at hz ⊢
        rw [frO_enc a _ 15 (by decide)]
        refine hz.trans ?_
        rw [eL2]
        simp only [ByteArray.size_append, List.getD_cons_zero, List.getD_cons_succ, if_true]
        congr 2
        push_cast
        omega
    · obtain rfl : c = 0 := by simpa using hc
      cases e
      · rw [encFB_8e0c1 b d 0 0 0 false hf, ← iform_8e0c1 b d 0 0 0 false hf]
        have hz := st_enc (a ++ (((one1 10 ++ encI b) ++ encI (d.size : Int)) ++ d ++ t)) (a ++ one1 10) t d false false [b] hL1 rfl h3' (by rw [eL1]; simp only [app_assoc])
        rw [show a ++ (((one1 10 ++ encI b) ++ encI (d.size : Int)) ++ d ++ t) = a ++ (one1 10 ++ (encI b ++ (encI (d.size : Int) ++ (d ++ t)))) by simp only [app_assoc]] at hz ⊢
        rw [frO_enc a _ 10 (by decide)]
        refine hz.trans ?_
        rw [eL1]
        simp only [ByteArray.size_append, List.getD_cons_zero]
        congr 2
        push_cast
        omega
      · rw [encFB_8e1c1 b d 0 0 0 false hf, ← iform_8e1c1 b d 0 0 0 false hf]
        have hz := st_enc (a ++ (((one1 11 ++ encI b) ++ encI (d.size : Int)) ++ d ++ t)) (a ++ one1 11) t d true false [b] hL1 rfl h3' (by rw [eL1]; simp only [app_assoc])
        rw [show a ++ (((one1 11 ++ encI b) ++ encI (d.size : Int)) ++ d ++ t) = a ++ (one1 11 ++ (encI b ++ (encI (d.size : Int) ++ (d ++ t)))) by simp only [app_assoc]] at hz ⊢
        rw [frO_enc a _ 11 (by decide)]
        refine hz.trans ?_
        rw [eL1]
        simp only [ByteArray.size_append, List.getD_cons_zero]
        congr 2
        push_cast
        omega
  · have hx := hf
    rw [isFB_16] at hx
    simp only [Bool.and_eq_true] at hx
    obtain ⟨he, h1⟩ := hx
    obtain ⟨-, rfl, rfl, rfl, rfl, rfl, -, rfl, rfl⟩ := eqFb_true he
    have hL : [l].all qB = true := by simp [h1]
    have hr := rdN_enc [l] (a ++ one1 16) t hL
    rw [encFB_16 0 0 ⟨#[]⟩ false 0 l 0 false hf, ← iform_16 0 0 ⟨#[]⟩ false 0 l 0 false hf, app_assoc (one1 16), frO_enc a _ 16 (by decide), ← encL_one h1]
    show ((rdN (a ++ (one1 16 ++ (encL [l] ++ t))) 1 _).map _) = _
    rw [← app_assoc a, show (1 : Nat) = [l].length from rfl, hr]
    simp only [Option.map_some, ByteArray.size_append]
    rw [Nat.add_assoc]
    rfl
  · have hx := hf
    rw [isFB_17] at hx
    simp only [Bool.and_eq_true] at hx
    obtain ⟨he, h1, h2⟩ := hx
    obtain ⟨-, -, rfl, rfl, rfl, rfl, -, rfl, rfl⟩ := eqFb_true he
    have hL : [b, l].all qB = true := by simp [h1, h2]
    have hr := rdN_enc [b, l] (a ++ one1 17) t hL
    rw [encFB_17 b 0 ⟨#[]⟩ false 0 l 0 false hf, ← iform_17 b 0 ⟨#[]⟩ false 0 l 0 false hf, app_assoc (one1 17), frO_enc a _ 17 (by decide)]
    show ((rdN (a ++ (one1 17 ++ (encL [b, l] ++ t))) 2 _).map _) = _
    rw [← app_assoc a, show (2 : Nat) = [b, l].length from rfl, hr]
    simp only [Option.map_some, ByteArray.size_append]
    rw [Nat.add_assoc]
    rfl
  · cases u
    · have hx := hf
      rw [isFB_18] at hx
      simp only [Bool.and_eq_true] at hx
      obtain ⟨he, h1, _⟩ := hx
      obtain ⟨-, rfl, rfl, rfl, rfl, rfl, -, rfl, -⟩ := eqFb_true he
      have hL : [l].all qB = true := by simp [h1]
      have hr := rdN_enc [l] (a ++ one1 18) t hL
      rw [encFB_18u0 0 0 ⟨#[]⟩ false 0 l 0 hf, ← iform_18u0 0 0 ⟨#[]⟩ false 0 l 0 hf, app_assoc (one1 18), frO_enc a _ 18 (by decide), ← encL_one h1]
      show ((rdN (a ++ (one1 18 ++ (encL [l] ++ t))) 1 _).map _) = _
      rw [← app_assoc a, show (1 : Nat) = [l].length from rfl, hr]
      simp only [Option.map_some, ByteArray.size_append]
      rw [Nat.add_assoc]
      rfl
    · have hx := hf
      rw [isFB_18] at hx
      simp only [Bool.and_eq_true] at hx
      obtain ⟨he, h1, _⟩ := hx
      obtain ⟨-, rfl, rfl, rfl, rfl, rfl, -, rfl, -⟩ := eqFb_true he
      have hL : [l].all qB = true := by simp [h1]
      have hr := rdN_enc [l] (a ++ one1 19) t hL
      rw [encFB_18u1 0 0 ⟨#[]⟩ false 0 l 0 hf, ← iform_18u1 0 0 ⟨#[]⟩ false 0 l 0 hf, app_assoc (one1 19), frO_enc a _ 19 (by decide), ← encL_one h1]
      show ((rdN (a ++ (one1 19 ++ (encL [l] ++ t))) 1 _).map _) = _
      rw [← app_assoc a, show (1 : Nat) = [l].length from rfl, hr]
      simp only [Option.map_some, ByteArray.size_append]
      rw [Nat.add_assoc]
      rfl
  · have hx := hf
    rw [isFB_20] at hx
    simp only [Bool.and_eq_true] at hx
    obtain ⟨he, h1⟩ := hx
    obtain ⟨-, rfl, rfl, rfl, rfl, rfl, -, rfl, rfl⟩ := eqFb_true he
    have hL : [l].all qB = true := by simp [h1]
    have hr := rdN_enc [l] (a ++ one1 20) t hL
    rw [encFB_20 0 0 ⟨#[]⟩ false 0 l 0 false hf, ← iform_20 0 0 ⟨#[]⟩ false 0 l 0 false hf, app_assoc (one1 20), frO_enc a _ 20 (by decide), ← encL_one h1]
    show ((rdN (a ++ (one1 20 ++ (encL [l] ++ t))) 1 _).map _) = _
    rw [← app_assoc a, show (1 : Nat) = [l].length from rfl, hr]
    simp only [Option.map_some, ByteArray.size_append]
    rw [Nat.add_assoc]
    rfl
  · have hx := hf
    rw [isFB_21] at hx
    simp only [Bool.and_eq_true] at hx
    obtain ⟨he, h1, h2⟩ := hx
    obtain ⟨-, -, rfl, rfl, rfl, rfl, -, rfl, rfl⟩ := eqFb_true he
    have hL : [b, l].all qB = true := by simp [h1, h2]
    have hr := rdN_enc [b, l] (a ++ one1 21) t hL
    rw [encFB_21 b 0 ⟨#[]⟩ false 0 l 0 false hf, ← iform_21 b 0 ⟨#[]⟩ false 0 l 0 false hf, app_assoc (one1 21), frO_enc a _ 21 (by decide)]
    show ((rdN (a ++ (one1 21 ++ (encL [b, l] ++ t))) 2 _).map _) = _
    rw [← app_assoc a, show (2 : Nat) = [b, l].length from rfl, hr]
    simp only [Option.map_some, ByteArray.size_append]
    rw [Nat.add_assoc]
    rfl
  · cases u
    · have hx := hf
      rw [isFB_22] at hx
      simp only [Bool.and_eq_true] at hx
      obtain ⟨he, h1, _⟩ := hx
      obtain ⟨-, rfl, rfl, rfl, rfl, rfl, -, rfl, -⟩ := eqFb_true he
      have hL : [l].all qB = true := by simp [h1]
      have hr := rdN_enc [l] (a ++ one1 22) t hL
      rw [encFB_22u0 0 0 ⟨#[]⟩ false 0 l 0 hf, ← iform_22u0 0 0 ⟨#[]⟩ false 0 l 0 hf, app_assoc (one1 22), frO_enc a _ 22 (by decide), ← encL_one h1]
      show ((rdN (a ++ (one1 22 ++ (encL [l] ++ t))) 1 _).map _) = _
      rw [← app_assoc a, show (1 : Nat) = [l].length from rfl, hr]
      simp only [Option.map_some, ByteArray.size_append]
      rw [Nat.add_assoc]
      rfl
    · have hx := hf
      rw [isFB_22] at hx
      simp only [Bool.and_eq_true] at hx
      obtain ⟨he, h1, _⟩ := hx
      obtain ⟨-, rfl, rfl, rfl, rfl, rfl, -, rfl, -⟩ := eqFb_true he
      have hL : [l].all qB = true := by simp [h1]
      have hr := rdN_enc [l] (a ++ one1 23) t hL
      rw [encFB_22u1 0 0 ⟨#[]⟩ false 0 l 0 hf, ← iform_22u1 0 0 ⟨#[]⟩ false 0 l 0 hf, app_assoc (one1 23), frO_enc a _ 23 (by decide), ← encL_one h1]
      show ((rdN (a ++ (one1 23 ++ (encL [l] ++ t))) 1 _).map _) = _
      rw [← app_assoc a, show (1 : Nat) = [l].length from rfl, hr]
      simp only [Option.map_some, ByteArray.size_append]
      rw [Nat.add_assoc]
      rfl
  · rw [isFB_no hn] at hf; cases hf
theorem dfO_frame (a t : ByteArray) (f : Fr) (h : okF f = true) : dfO (a ++ (encOf f ++ t)) (a.size : Int) = some (f, ((a.size + (encOf f).size : Nat) : Int)) := by
  unfold dfO; rw [frO_frame a t f h]; exact filter_yes h
theorem dfO_one (f : Fr) (h : okF f = true) : dfO (encOf f) 0 = some (f, ((encOf f).size : Int)) := by
  have := dfO_frame ⟨#[]⟩ ⟨#[]⟩ f h
  rw [app_nil, nil_app] at this
  refine this.trans ?_
  show some (f, ((0 + (encOf f).size : Nat) : Int)) = _
  rw [Nat.zero_add]
theorem dfO_nil (p : Int) : dfO ⟨#[]⟩ p = none := by
  refine dfO_none (frO_out ?_)
  show ¬ (0 ≤ p ∧ p < ((0 : Nat) : Int))
  omega
end Go.Proofs.Ytadoiehgobcjcaa
