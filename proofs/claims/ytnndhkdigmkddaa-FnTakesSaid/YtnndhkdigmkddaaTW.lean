/- Walk of the law FnTakes. -/
import Derived.Test.YtnndhkdigmkddaaTM
import Derived.Test.YtnndhkdigmkddaaDB2
import Derived.Test.YtnndhkdigmkddaaE14
import Derived.Test.YtnndhkdigmkddaaE8
namespace Go.Proofs.Ytnndhkdigmkddaa
open Go.ChangeShapes Go.WideShapes Go.ChangeAt Go.RowKit Go.Sort
set_option linter.unusedVariables false
set_option linter.unusedSimpArgs false
theorem SmB.tkL {nx : Int} {l : List Ck} {most : Int} (h : SmB l) : SmB (tkL nx l most) := by
  unfold Go.Proofs.Ytnndhkdigmkddaa.tkL
  split
  · exact h
  · rename_i hM
    obtain ⟨_, hl, hx, hm0, hm1, _, _⟩ := tk_pos hM
    cases l with
    | nil => exact absurd rfl hl
    | cons a l =>
      have ha := h a List.mem_cons_self
      have ht : SmB l := fun c hc => h c (List.mem_cons_of_mem _ hc)
      have e : (a :: l).getD 0 ck0 = a := rfl
      rw [e] at hx hm1 ⊢
      split
      · exact ht
      · intro c hc
        rcases List.mem_cons.1 hc with rfl | hc
        · have : (a.2.extract (tkM nx (a :: l) most).toNat a.2.size).size = a.2.size - (tkM nx (a :: l) most).toNat := by rw [ByteArray.size_extract]; omega
          simp only [this]
          omega
        · exact ht c hc
set_option maxRecDepth 20000 in
set_option maxHeartbeats 8000000 in
theorem walk_FnTakes {A : Option Addr} {c n : Nat} {l : List Int} (w : World) (hr : Rd w w.heap.size A (bys l)) (hn : n ≤ maxLen) (HL : Hid (l.length = n)) :
    Calls Try.prog 5 #[.slice A n c] w fun e w' => e = .returned (.bool true) ∧ Below w.heap.size w w' := by
  unfold maxLen at hn
  by_cases hs : n ≤ 1048576
  · have hd : decide ((1048576 : Int) < (n : Int)) = false := by simp; omega
    go_enter Try.func5, Try.ntmps5
    go_wp2_with (first | (go_at_call 15; go_in))
    refine (drawTB hr hs HL).mono ?_
    rintro e w1 ⟨nx, A1, c1, L, mo, rfl, hwx, hlen, hsm, hmo0, hmo1, o1, hb⟩
    obtain ⟨hdd, hww⟩ := hsm.at_ rfl
    have HD := Lib.hid hdd; have HW := Lib.hid hww; have HX := Lib.hid hwx
    have hwm : (Lit.int .i64 mo).wf = true := by simp [Lit.wf, IntKind.min, IntKind.max, IntKind.signed, IntKind.bits]; omega
    have HSM := Lib.hid hsm
    have hcz := none_zero o1
    clear hdd hww hwx hsm
    obtain ⟨q, hq⟩ : ∃ q, L.length = q := ⟨_, rfl⟩
    have HD2 : Hid (∀ k, k < q → (L.getD k ck0).2.size ≤ 1048576) := Lib.hid (by rw [← hq]; exact HD.out)
    have HW2 : Hid (∀ k, k < q → (Lit.int .i64 (L.getD k ck0).1).wf = true) := Lib.hid (by rw [← hq]; exact HW.out)
    rw [hq] at o1 hlen ⊢
    have HQ := Lib.hid hq
    have HC := Lib.hid hcz
    clear hq HD HW hcz
    go_upto_region 4 with (fail)
    have al := bbox w1 (.int .i64 nx) (.slice A1 q c1) 28
    have kb : Bk (w1.alloc (.cells #[(.int .i64 nx), (.slice A1 q c1)] 28)) w1.heap.size 28 #[(.int .i64 nx), (.slice A1 q c1)] := heap_alloc_new w1 _
    replace o1 := own_step o1 al
    replace hb := below_next hb hb.size al
    clear al
    generalize w1.alloc (.cells #[(.int .i64 nx), (.slice A1 q c1)] 28) = w2 at kb o1 hb ⊢
    generalize w1.heap.size = gb at kb  ⊢
    obtain ⟨b0, b1⟩ := kb.two
    go_wp2_with fail
    refine (iTake (B := w2.heap.size) nx mo HX.out (Nat.le_refl _) (own_rd o1) (by omega) HQ HD2.out HW2.out HC.out).mono ?_
    rintro e w3 ⟨A3, c3, rfl, hb3, o3⟩
    obtain ⟨M, hM⟩ : ∃ M, tkL nx L mo = M := ⟨_, rfl⟩
    obtain ⟨S, hS⟩ : ∃ S, tkS nx L mo = S := ⟨_, rfl⟩
    obtain ⟨N, hN⟩ : ∃ N, tkN nx L mo = N := ⟨_, rfl⟩
    have hlenM := tkL_len' nx L mo
    rw [hM] at o3 hlenM ⊢
    rw [hS, hN]
    rw [HQ.out] at hlenM
    obtain ⟨p, hp⟩ : ∃ p, M.length = p := ⟨_, rfl⟩
    rw [hp] at o3 hlenM ⊢
    have HM := Lib.hid hM; have HS := Lib.hid hS; have HN := Lib.hid hN; have HP := Lib.hid hp
    clear hM hS hN hp b0 b1
    replace kb := kb.below hb3 kb.lt
    replace o1 := own_step o1 hb3
    replace hb := below_next hb hb.size hb3
    clear hb3
    replace o3 := o3.lower (Nat.zero_le _)
    go_upto_region 5 with (fail)
    have al := bbox w3 (.int .i64 N) (.slice A3 p c3) 28
    have k3 : Bk (w3.alloc (.cells #[(.int .i64 N), (.slice A3 p c3)] 28)) w3.heap.size 28 #[(.int .i64 N), (.slice A3 p c3)] := heap_alloc_new w3 _
    have lt_gb_g3 : gb < w3.heap.size := kb.lt
    replace kb := kb.below al kb.lt
    replace o1 := own_step o1 al
    replace o3 := o3.below al
    replace hb := below_next hb hb.size al
    clear al
    generalize w3.alloc (.cells #[(.int .i64 N), (.slice A3 p c3)] 28) = w4 at kb k3 o1 o3 hb ⊢
    generalize w3.heap.size = g3 at k3 lt_gb_g3 ⊢
    obtain ⟨b0, b1⟩ := kb.two
    go_wp2_with fail
    refine (sTake (B := w4.heap.size) nx mo HX.out (Nat.le_refl _) (own_rd o1) (by omega) HQ HD2.out HW2.out HC.out).mono ?_
    rintro e w5 ⟨A5, c5, rfl, hb5, o5⟩
    rw [HM.out] at o5 ⊢
    rw [HS.out, HN.out]
    rw [HP.out] at o5 ⊢
    clear b0 b1
    replace kb := kb.below hb5 kb.lt
    replace k3 := k3.below hb5 k3.lt
    replace o1 := own_step o1 hb5
    replace o3 := o3.below hb5
    replace hb := below_next hb hb.size hb5
    clear hb5
    replace o5 := o5.lower (Nat.zero_le _)
    go_upto_region 6 with (fail)
    have al := bbox w5 (.int .i64 N) (.slice A5 p c5) 28
    have k5 : Bk (w5.alloc (.cells #[(.int .i64 N), (.slice A5 p c5)] 28)) w5.heap.size 28 #[(.int .i64 N), (.slice A5 p c5)] := heap_alloc_new w5 _
    have lt_gb_g5 : gb < w5.heap.size := kb.lt
    have lt_g3_g5 : g3 < w5.heap.size := k3.lt
    replace kb := kb.below al kb.lt
    replace k3 := k3.below al k3.lt
    replace o1 := own_step o1 al
    replace o3 := o3.below al
    replace o5 := o5.below al
    replace hb := below_next hb hb.size al
    clear al
    generalize w5.alloc (.cells #[(.int .i64 N), (.slice A5 p c5)] 28) = w6 at kb k3 k5 o1 o3 o5 hb ⊢
    generalize w5.heap.size = g5 at k5 lt_gb_g5 lt_g3_g5 ⊢
    obtain ⟨b0, b1⟩ := k3.two
    obtain ⟨d0, d1⟩ := k5.two
    have hself : eqBb N M N M = true := eqBb_self N M
    go_wp2_with fail
    refine (sEqBuf N N (Nat.le_refl _) o3.rd o5.rd (by omega) (by omega) HP HP).mono ?_
    rintro e w7 ⟨rfl, hb7⟩
    rw [hself]
    replace kb := kb.below hb7 kb.lt
    replace k3 := k3.below hb7 k3.lt
    replace k5 := k5.below hb7 k5.lt
    replace o1 := own_step o1 hb7
    replace o3 := o3.below hb7
    replace o5 := o5.below hb7
    replace hb := below_next hb hb.size hb7
    clear hb7 b0 b1 d0 d1 hself
    obtain ⟨b0, b1⟩ := kb.two
    go_wp2_with fail
    refine (sIsB (B := w7.heap.size) nx HX.out (Nat.le_refl _) (own_rd o1) (by omega) HQ HD2.out HW2.out).mono ?_
    rintro e w8 ⟨rfl, hb8⟩
    replace kb := kb.below hb8 kb.lt
    replace k3 := k3.below hb8 k3.lt
    replace k5 := k5.below hb8 k5.lt
    replace o1 := own_step o1 hb8
    replace o3 := o3.below hb8
    replace o5 := o5.below hb8
    replace hb := below_next hb hb.size hb8
    clear hb8 b0 b1
    have hsz := tkS_size nx L mo
    rw [HS.out, HN.out] at hsz
    obtain ⟨hz1, hz2⟩ := hsz
    have hat : ∀ (i : Nat) (hi : i < S.size), bAt L (nx + (i : Int)) = ((S[i]'hi).toNat : Int) := by rw [← HS.out]; exact fun i hi => tkS_at hi
    have HAT := Lib.hid hat
    clear hat
    cases hI : isBf nx L
    · have hs0 : S.size = 0 := by rw [← HS.out]; exact tkS_no hI
      have hse : S.toList.isEmpty = true := by rw [dempty]; exact decide_eq_true hs0
      go_wp2
      go_ret
      exact ⟨rfl, hb⟩
    · have hI2 : isBf N M = true := by rw [← HN.out, ← HM.out]; exact tkL_is hI
      have HI := Lib.hid hI; have HI2 := Lib.hid hI2
      obtain ⟨r, hr0⟩ : ∃ r, rdB nx L = r := ⟨_, rfl⟩
      rw [hr0] at hz1
      have hrge : 0 ≤ r := by rw [← hr0]; exact rdB_ge nx L
      have hSz : S.size ≤ 9223372036854775807 := by have h := (tkS_size nx L mo).1; rw [HS.out, hr0] at h; omega
      have hS64 : S.size ≤ 64 := by omega
      have HZ1 := Lib.hid hz1; have HZ2 := Lib.hid hz2; have HR := Lib.hid hr0
      have hnx0 := (isBf_chain hI).1
      clear hI hI2 hz1 hz2 hr0
      have hnxm : nx ≤ 4611686018427387903 := by have := HI.out; unfold isBf at this; simp only [Bool.and_eq_true] at this; exact (qB_true this.1).2
      go_wp2_with fail
      go_loopw [9] (fun i wr => ∃ k : Nat, k ≤ S.size ∧ i = .int .i64 k ∧ Below w8.heap.size w8 wr) (fun i _ => S.size - (intOf i).toNat)
      case atStart => exact ⟨0, Nat.zero_le _, rfl, Below.refl _ _⟩
      case round =>
        obtain ⟨k, hk, rfl, hbr⟩ := hrel
        have kbr := kb.below hbr kb.lt
        obtain ⟨b0, b1⟩ := kbr.two
        have o1r := own_step o1 hbr
        have hbw := below_next hb hb.size hbr
        by_cases hlt : k < S.size
        · have hk0 : 0 ≤ (k : Int) := Int.natCast_nonneg _
          have hk1 : (k : Int) < (S.size : Int) := by omega
          have hby := sByteAt (c := c1) (w := wr.drew) (B := wr.heap.size) nx (nx + (k : Int)) (by simp [Lit.wf, IntKind.min, IntKind.max, IntKind.signed, IntKind.bits]; omega) (Nat.le_refl _) (show Rd wr.drew wr.heap.size A1 (encC L) from own_rd o1r) (by omega) HQ HD2.out HW2.out
          rw [HAT.out k hlt] at hby
          have hc8 := (S[k]'hlt).toNat_lt
          have HBR := Lib.hid hbr
          clear hbr
          go_wp2_with fail
          have hlb := kbr.lt
          have hz65 : IntKind.i64.wrap ((S[k]'hlt).toNat : Int) = ((S[k]'hlt).toNat : Int) := IntWalk.i64_in _ (by omega)
          have hwk : IntKind.i64.wrap (nx + (k : Int)) = nx + (k : Int) := IntWalk.i64_in _ (by omega)
          go_region_held3 (fun w' => w'.cell? ⟨gb, 0, none⟩ = some (.int .i64 nx) ∧ w'.cell? ⟨gb, 1, none⟩ = some (.slice A1 q c1))
            (first | go_keep | exact ⟨b0, b1⟩ | exact ⟨s0, s1⟩)
            (first
              | (go_at_call 19; refine hby.mono ?_; rintro e w9 ⟨rfl, hb9⟩; have s0 := (hb9.cell (p := ⟨gb, 0, none⟩) hlb).trans b0; have s1 := (hb9.cell (p := ⟨gb, 1, none⟩) hlb).trans b1; have hbE := Lib.hid (below_next HBR.out.drew HBR.out.drew.size hb9)))
          all_goals go_wp2
          all_goals exact ⟨⟨k + 1, by omega, by go_num, hbE.out⟩, by simp [intOf]; omega⟩
        · obtain rfl : k = S.size := by omega
          have k5r := k5.below hbr k5.lt
          have o5r := o5.below hbr
          have fin1 := iReady (c := c1) (w := wr) (B := wr.heap.size) nx HX.out (Nat.le_refl _) (own_rd o1r) (by omega) HQ HD2.out HW2.out
          rw [HR.out] at fin1
          have hsmM : SmB M := by rw [← HM.out]; exact HSM.out.tkL
          obtain ⟨hdM, hwM⟩ := hsmM.at_ HP.out
          have HDM := Lib.hid hdM; have HWM := Lib.hid hwM
          have HWL := Lib.hid hbw
          have K5 := Lib.hid k5r; have O5 := Lib.hid o5r; have KB := Lib.hid kbr
          have z2 := HZ2.out
          have hNw : IntKind.i64.wrap (nx + (S.size : Int)) = N := by rw [IntWalk.i64_in _ (by omega)]; exact z2.symm
          have hNN : (N == N) = true := by simp
          have z1 := HZ1.out
          clear hbr hdM hwM hsmM k5r o5r kbr hbw z2
          by_cases hm0 : mo < 0
          · have hx0 : max mo 0 = 0 := by omega
            rw [hx0] at z1
            have hr0 : ¬ r < 0 := by omega
            have heq : ((S.size : Int) == 0) = true := by rw [beq_iff_eq]; omega
            clear z1 hx0
            go_wp2_with (first
              | (go_at_call 20; refine fin1.mono ?_; rintro e w10 ⟨rfl, hb10⟩; have K5' := K5.out.below hb10 K5.out.lt; have kb' := KB.out.below hb10 KB.out.lt; have O5' := Lib.hid (O5.out.below hb10); have hw10 := Lib.hid (below_next HWL.out HWL.out.size hb10); obtain ⟨y0, y1⟩ := K5'.two; obtain ⟨b2, b3⟩ := kb'.two)
              | (go_at_call 21; refine (iIsB (c := c5) (w := w10) (B := w10.heap.size) N (Nat.le_refl _) O5'.out.rd (by omega) HP HDM.out HWM.out).mono ?_; rintro e w11 ⟨rfl, hb11⟩; rw [HI2.out]))
            go_ret
            exact ⟨rfl, below_next hw10.out hw10.out.size hb11⟩
          · have hx0 : max mo 0 = mo := by omega
            rw [hx0] at z1
            by_cases hr1 : r < mo
            · have heq : ((S.size : Int) == r) = true := by rw [beq_iff_eq]; omega
              clear z1 hx0
              go_wp2_with (first
                | (go_at_call 20; refine fin1.mono ?_; rintro e w10 ⟨rfl, hb10⟩; have K5' := K5.out.below hb10 K5.out.lt; have kb' := KB.out.below hb10 KB.out.lt; have O5' := Lib.hid (O5.out.below hb10); have hw10 := Lib.hid (below_next HWL.out HWL.out.size hb10); obtain ⟨y0, y1⟩ := K5'.two; obtain ⟨b2, b3⟩ := kb'.two)
                | (go_at_call 21; refine (iIsB (c := c5) (w := w10) (B := w10.heap.size) N (Nat.le_refl _) O5'.out.rd (by omega) HP HDM.out HWM.out).mono ?_; rintro e w11 ⟨rfl, hb11⟩; rw [HI2.out]))
              go_ret
              exact ⟨rfl, below_next hw10.out hw10.out.size hb11⟩
            · have heq : ((S.size : Int) == mo) = true := by rw [beq_iff_eq]; omega
              clear z1 hx0
              go_wp2_with (first
                | (go_at_call 20; refine fin1.mono ?_; rintro e w10 ⟨rfl, hb10⟩; have K5' := K5.out.below hb10 K5.out.lt; have kb' := KB.out.below hb10 KB.out.lt; have O5' := Lib.hid (O5.out.below hb10); have hw10 := Lib.hid (below_next HWL.out HWL.out.size hb10); obtain ⟨y0, y1⟩ := K5'.two; obtain ⟨b2, b3⟩ := kb'.two)
                | (go_at_call 21; refine (iIsB (c := c5) (w := w10) (B := w10.heap.size) N (Nat.le_refl _) O5'.out.rd (by omega) HP HDM.out HWM.out).mono ?_; rintro e w11 ⟨rfl, hb11⟩; rw [HI2.out]))
              go_ret
              exact ⟨rfl, below_next hw10.out hw10.out.size hb11⟩
  · have hd : decide ((1048576 : Int) < (n : Int)) = true := by simp; omega
    go_enter Try.func5, Try.ntmps5
    go_wp2_with (first | (go_at_call 15; go_in))
    go_ret
    exact ⟨rfl, Below.refl _ _⟩
end Go.Proofs.Ytnndhkdigmkddaa
