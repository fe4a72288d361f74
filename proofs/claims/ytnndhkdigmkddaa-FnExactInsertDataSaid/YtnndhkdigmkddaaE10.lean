/- The marks that the laws write into chunks. No conditions. -/
import Derived.Test.YtnndhkdigmkddaaE9
import Derived.Laws.IdiomStrings
namespace Go.Proofs.Ytnndhkdigmkddaa
open Go.ChangeShapes Go.WideShapes Go.ChangeAt Go.RowKit Go.Sort
set_option linter.unusedVariables false
set_option linter.unusedSimpArgs false
/-- The digits of a number, k places in front of what stands there. -/
def mD : Nat → Nat → ByteArray → ByteArray
  | 0, _, s => s
  | f + 1, n, s => if n = 0 then s else mD f (n / 10) (⟨#[UInt8.ofNat (48 + n % 10)]⟩ ++ s)
theorem mD_zero (f : Nat) (s : ByteArray) : mD f 0 s = s := by cases f <;> rfl
theorem mD_succ (f n : Nat) (s : ByteArray) (h : 0 < n) : mD (f + 1) n s = mD f (n / 10) (⟨#[UInt8.ofNat (48 + n % 10)]⟩ ++ s) := by
  show (if n = 0 then s else _) = _
  rw [if_neg (by omega)]
theorem mD_size : ∀ (f n : Nat) (s : ByteArray), (mD f n s).size ≤ s.size + f := by
  intro f
  induction f with
  | zero => intro n s; exact Nat.le_refl _
  | succ f ih =>
    intro n s
    show (if n = 0 then s else _).size ≤ _
    split
    · omega
    · have := ih (n / 10) (⟨#[UInt8.ofNat (48 + n % 10)]⟩ ++ s)
      rw [ByteArray.size_append] at this
      have e : (⟨#[UInt8.ofNat (48 + n % 10)]⟩ : ByteArray).size = 1 := rfl
      omega
/-- What markText returns. -/
def mT (k : Int) : ByteArray := (⟨#[109]⟩ : ByteArray) ++ (if k ≤ 0 then ⟨#[48]⟩ else mD 20 k.toNat ⟨#[]⟩)
theorem mT_size (k : Int) : (mT k).size ≤ 30 := by
  unfold mT
  rw [ByteArray.size_append]
  have e : (⟨#[109]⟩ : ByteArray).size = 1 := rfl
  split
  · have e2 : (⟨#[48]⟩ : ByteArray).size = 1 := rfl
    omega
  · have := mD_size 20 k.toNat ⟨#[]⟩
    have e3 : (⟨#[]⟩ : ByteArray).size = 0 := rfl
    omega
theorem mconv (w : World) (c : Int) (q : Nat) (hc : c = (q : Int)) (h1 : q < 256) :
    (convert 37 9 (.slice (some ⟨w.heap.size, 0, none⟩) 1 1)).run Try.prog (w.alloc (.cells #[.int .u8 c] 5)) = .ok (.string ⟨#[UInt8.ofNat q]⟩) (w.alloc (.cells #[.int .u8 c] 5)) := by
  subst hc
  have h := run_convert_bytes_back (P := Try.prog) (w.alloc (.cells #[.int .u8 (q : Int)] 5)) 37 9 5 ⟨w.heap.size, 0, none⟩ 1 [UInt8.ofNat q] Try.underlying37 Try.underlying5 Try.underlying9 (fun j hj => by
    obtain rfl : j = 0 := by simpa using hj
    have e : (([UInt8.ofNat q] : List UInt8)[0].toNat : Int) = (q : Int) := by show ((UInt8.ofNat q).toNat : Int) = q; simp; omega
    rw [e]
    exact (World.cell?_alloc_new (w := w) _ _ 0).trans rfl)
  exact h
set_option maxHeartbeats 1000000 in
theorem markText_any (k : Nat) (hk : 0 < k) (hk1 : k ≤ 4611686018427387904) (w : World) : Calls Try.prog 46 #[.int .i64 k] w fun e w' => e = .returned (.string (mT k)) ∧ Below w.heap.size w w' := by
  have hmt : mT k = (⟨#[109]⟩ : ByteArray) ++ mD 20 k ⟨#[]⟩ := by unfold mT; rw [if_neg (by omega), Int.toNat_natCast]
  have hms := mD_size 20 k ⟨#[]⟩
  have hz : (mD 20 k ⟨#[]⟩).size ≤ 20 := by have e3 : (⟨#[]⟩ : ByteArray).size = 0 := rfl; omega
  rw [hmt]
  obtain ⟨X, hX⟩ : ∃ X, mD 20 k ⟨#[]⟩ = X := ⟨_, rfl⟩
  rw [hX] at hz ⊢
  have HX := Lib.hid hX; clear hX hms hmt
  go_enter Try.func46, Try.ntmps46
  go_wp2
  go_loopw [0, 3] (fun x o wr => ∃ (f n : Nat) (s : ByteArray), x = .int .i64 n ∧ o = .string s ∧ n < 10 ^ f ∧ f ≤ 20 ∧ s.size + f ≤ 20 ∧ n ≤ 4611686018427387904 ∧ mD f n s = X ∧ Below w.heap.size w wr) (fun x _ _ => (intOf x).toNat)
  case atStart => exact ⟨20, k, ⟨#[]⟩, rfl, rfl, by have : (10 : Nat) ^ 20 = 100000000000000000000 := by decide
                                                    omega, by omega, by show 0 + 20 ≤ 20; omega, hk1, HX.out, Below.refl _ _⟩
  case round =>
    obtain ⟨f, n, s, rfl, rfl, hn, hf, hs, hn1, hm, hbw⟩ := hrel
    have HM := Lib.hid hm; clear hm
    clear HX
    have HNF := Lib.hid hn; clear hn
    by_cases h0 : 0 < n
    · cases f with
      | zero => have := HNF.out; simp at this; omega
      | succ f =>
        have hc := mconv wr (48 + (n : Int) % 10) (48 + n % 10) (by omega) (by omega)
        have HS := Lib.hid (mD_succ f n s h0)
        obtain ⟨D, hD⟩ : ∃ D : ByteArray, (⟨#[UInt8.ofNat (48 + n % 10)]⟩ : ByteArray) = D := ⟨_, rfl⟩
        have hDs : D.size = 1 := by rw [← hD]; rfl
        rw [hD] at hc
        have HSD := Lib.hid (show mD (f + 1) n s = mD f (n / 10) (D ++ s) by rw [HS.out, hD])
        clear HS hD
        have hd10 := Lib.hid (show n / 10 < 10 ^ f by have := HNF.out; rw [Nat.pow_succ] at this; omega)
        have hsz2 : (D ++ s).size = 1 + s.size := by rw [ByteArray.size_append, hDs]
        go_wp2
        go_roundw
        case rel => exact ⟨f, n / 10, D ++ s, by go_num, rfl, hd10.out, by omega, by omega, by omega, by rw [← HSD.out]; exact HM.out, hbw.alloc hbw.size _⟩
        case measure => simp [intOf]; omega
    · have HE := Lib.hid (show X = s by rw [← HM.out, show n = 0 by omega, mD_zero])
      go_wp2
      go_ret
      exact ⟨ret_str (by rw [HE.out]), hbw⟩
theorem markText_int (z : Int) (k : Nat) (hz : z = (k : Int)) (hk : 0 < k) (hk1 : k ≤ 4611686018427387904) (w : World) : Calls Try.prog 46 #[.int .i64 z] w fun e w' => e = .returned (.string (mT (k : Int))) ∧ Below w.heap.size w w' := by
  subst hz; exact markText_any k hk hk1 w
theorem gb_below {a w w' : World} {row : Option Nat} (h : a.grownBy w row) (hb : Below w.heap.size w w') : a.grownBy w' row :=
  ⟨hb.os.trans h.os, hb.tape.trans h.tape, hb.output.trans h.output, Nat.le_trans h.size hb.size, fun k hk hne => (hb.block k (Nat.lt_of_lt_of_le hk h.size)).trans (h.block k hk hne)⟩
/-- What the marking writes into chunks. -/
def mkC (k0 : Nat) (n : Nat) : List Ck := (List.range n).map fun (i : Nat) => (((k0 + 2 * i : Nat) : Int), mT ((k0 + 2 * i + 1 : Nat) : Int))
theorem mkC_len (k0 : Nat) (n : Nat) : (mkC k0 n).length = n := by simp [mkC]
theorem mkC_get (k0 : Nat) (n k : Nat) (h : k < n) : (mkC k0 n).getD k ck0 = (((k0 + 2 * k : Nat) : Int), mT ((k0 + 2 * k + 1 : Nat) : Int)) := by simp [mkC, h]
set_option maxHeartbeats 1000000 in
theorem markChunkS_any {A : Option Addr} {c n base : Nat} {w : World} {l : List Ck} (k0 : Nat) (hown : w.ownsRow base 46 2 (.slice A n c) n (encC l)) (hbase : base ≤ w.heap.size) (hk0 : 0 < k0) (hk1 : k0 ≤ 1152921504606846976) (hm : n ≤ 1152921504606846976) :
    Calls Try.prog 28 #[.slice A n c, .int .i64 k0] w fun e w' => e = .returned (.int .i64 ((k0 + 2 * n : Nat) : Int)) ∧ w'.ownsRow base 46 2 (.slice A n c) n (encC (mkC k0 n)) ∧ w.grownBy w' (Value.slice A n c).ownBlock := by
  rcases hown.2 with ⟨hv, hn⟩ | ⟨g, cap, cur, hv, hbg, hg, hnc, hcm, hcs, _⟩
  · injection hv with e1 e2 e3
    subst hn e1 e3
    have hownn := World.ownsRow_nil w base 46 2
    clear hown
    go_enter Try.func28, Try.ntmps28
    go_wp2
    go_loop [1, 5] (fun s i => s = .int .i64 k0 ∧ i = .int .i64 0) (fun _ _ => 0)
    case atStart => exact ⟨rfl, rfl⟩
    case round =>
      obtain ⟨rfl, rfl⟩ := hrel
      go_wp2
      go_ret
      exact ⟨ret_int (by simp), hownn, grown_refl _ _⟩
  · injection hv with e1 e2 e3
    subst e1 e3
    clear hown
    have HCS0 := Lib.hid hcs; clear hcs
    have HG := Lib.hid (show Bk w g 46 cur from hg); clear hg
    go_enter Try.func28, Try.ntmps28
    go_wp2
    go_loopw [1, 5] (fun s i wr => ∃ (k : Nat) (cs : Array Value), k ≤ n ∧ i = .int .i64 k ∧ s = .int .i64 ((k0 + 2 * k : Nat) : Int) ∧ Bk wr g 46 cs ∧ cs.size = c * 2 ∧ Hd cs (k * 2) (encC (mkC k0 n)) ∧ w.grownBy wr (some g)) (fun s i _ => n - (intOf i).toNat)
    case atStart => exact ⟨0, cur, Nat.zero_le _, rfl, by simp, HG.out, HCS0.out, fun j hj => by omega, grown_refl _ _⟩
    case round =>
      obtain ⟨k, cs, hk, rfl, rfl, hbk, hcs, hh, hgr⟩ := hrel
      have HBK := Lib.hid hbk; clear hbk
      have HCS := Lib.hid hcs; clear hcs
      have HH := Lib.hid hh; clear hh
      by_cases hlt : k < n
      · have hg1 : k * 2 + 1 < cs.size := by rw [HCS.out]; omega
        have hlo := encC_lo (mkC k0 n) k (by rw [mkC_len]; exact hlt)
        have hhi := encC_hi (mkC k0 n) k (by rw [mkC_len]; exact hlt)
        rw [mkC_get _ _ _ hlt] at hlo hhi
        have HLO := Lib.hid hlo; clear hlo
        have HHI := Lib.hid hhi; clear hhi
        have d0 : wr.cell? ⟨g, k * 2, none⟩ = some (cs[k * 2]'(by omega)) := by rw [HBK.out.cell, Array.getElem?_eq_getElem]
        have f0 := HBK.out.frozen (k * 2)
        generalize cs[k * 2]'(by omega) = o0 at d0
        have hbk1 := HBK.out.set_ (k * 2) (.int .i64 ((k0 : Int) + 2 * (k : Int)))
        have hgr1 := only_setCell hgr (k * 2) (.int .i64 ((k0 : Int) + 2 * (k : Int)))
        go_wp2_with fail
        refine (markText_int _ (k0 + 2 * k + 1) (by omega) (by omega) (by omega) _).mono ?_
        rintro e w1 ⟨rfl, hb1⟩
        have hbk2 := hbk1.below hb1 hbk1.lt
        have hgr2 := gb_below hgr1 hb1
        clear d0 f0 hbk1 hgr1
        have d1 : w1.cell? ⟨g, k * 2 + 1, none⟩ = some ((cs.setIfInBounds (k * 2) (.int .i64 ((k0 : Int) + 2 * (k : Int))))[k * 2 + 1]'(by simp; omega)) := by rw [hbk2.cell, Array.getElem?_eq_getElem]
        have f1 := hbk2.frozen (k * 2 + 1)
        generalize (cs.setIfInBounds (k * 2) (.int .i64 ((k0 : Int) + 2 * (k : Int))))[k * 2 + 1]'(by simp; omega) = o1 at d1
        obtain ⟨M, hM⟩ : ∃ M, mT ((k0 + 2 * k + 1 : Nat) : Int) = M := ⟨_, rfl⟩
        rw [hM]
        have HBK3 := Lib.hid (hbk2.set_ (k * 2 + 1) (.string M))
        have hgr3 := only_setCell hgr2 (k * 2 + 1) (.string M)
        have HHN := Lib.hid (HH.out.set2 (u := .int .i64 ((k0 : Int) + 2 * (k : Int))) (v := .string M) hg1 (by rw [Nat.mul_comm]; exact HLO.out) (by rw [Nat.mul_comm, ← hM]; exact HHI.out))
        clear hbk2 hM
        go_wp2
        go_roundw
        case rel => exact ⟨k + 1, _, by omega, by go_num, by go_num, HBK3.out, by simp [HCS.out], by rw [Nat.add_mul]; exact HHN.out, hgr3⟩
        case measure => simp [intOf]; omega
      · go_wp2
        go_ret
        obtain rfl : k = n := by omega
        exact ⟨rfl, Hd.own HBK.out HH.out (by rw [encC_len, mkC_len, Nat.mul_comm]) HCS.out hnc hcm hbg, hgr⟩
set_option maxHeartbeats 1000000 in
theorem heldChunkS_any {A : Option Addr} {c n B : Nat} {w : World} (k0 : Nat) (hr : Rd w B A (encC (mkC k0 n))) (hB : B ≤ w.heap.size) (hk0 : 0 < k0) (hk1 : k0 ≤ 1152921504606846976) (hm : n ≤ 1152921504606846976) :
    Calls Try.prog 29 #[.slice A n c, .int .i64 k0] w fun e w' => e = .returned (.int .i64 ((k0 + 2 * n : Nat) : Int)) ∧ Below w.heap.size w w' := by
  go_enter Try.func29, Try.ntmps29
  go_wp2
  go_loopw [1, 5] (fun s i wr => ∃ (k : Nat), k ≤ n ∧ i = .int .i64 k ∧ s = .int .i64 ((k0 + 2 * k : Nat) : Int) ∧ Below w.heap.size w wr) (fun s i _ => n - (intOf i).toNat)
  case atStart => exact ⟨0, Nat.zero_le _, rfl, by simp, Below.refl _ _⟩
  case round =>
    obtain ⟨k, hk, rfl, rfl, hbw⟩ := hrel
    by_cases hlt : k < n
    · obtain ⟨b, off, x, y, rfl, hb, HX, c0, c1⟩ := (hr.below hbw hB).chk (k := k) (by rw [mkC_len]; exact hlt)
      have hxy := HX.out
      rw [mkC_get _ _ _ hlt] at hxy
      injection hxy with e1 e2
      subst e1
      obtain ⟨M, hM⟩ : ∃ M, mT ((k0 + 2 * k + 1 : Nat) : Int) = M := ⟨_, rfl⟩
      rw [hM] at e2
      subst e2
      have hMT : ∀ W : World, Calls Try.prog 46 #[.int .i64 ((k0 : Int) + 2 * (k : Int) + 1)] W fun e w' => e = .returned (.string M) ∧ Below W.heap.size W w' := fun W => by rw [← hM]; exact markText_int _ (k0 + 2 * k + 1) (by omega) (by omega) (by omega) W
      have c0' : wr.cell? ⟨b, off + k * 2, none⟩ = some (.int .i64 ((k0 : Int) + 2 * (k : Int))) := by rw [c0]; congr 2
      clear c0 hM HX
      have k0r := cell_regrown c0'
      have k1r := cell_regrown c1
      go_wp2_with fail
      refine wp_region_quiet_below (by kernel_rfl) (by kernel_rfl) ?_
      repeat (go_big_quiet_step ((go_at_call 46; exact Calls.regrown_of (hMT _))))
      refine wpQuiet_nil ?_
      intro _ hw'
      obtain ⟨⟨dq, osq⟩, hw''⟩ := hw'
      subst hw''
      have hb2 := below_next hbw hbw.size (below_regrown wr dq osq)
      generalize grow (redrawn wr dq) osq = w2 at hb2 ⊢
      clear k0r k1r c0' c1 hbw
      go_wp2
      go_roundw
      case rel => exact ⟨k + 1, by omega, by go_num, by go_num, hb2⟩
      case measure => simp [intOf]; omega
    · go_wp2
      go_ret
      obtain rfl : k = n := by omega
      exact ⟨rfl, hbw⟩
theorem markBuffer_any {A : Option Addr} {c n base : Nat} {w : World} {l : List Ck} (nx : Int) (k0 : Nat) (hown : w.ownsRow base 46 2 (.slice A n c) n (encC l)) (hbase : base ≤ w.heap.size) (hk0 : 0 < k0) (hk1 : k0 ≤ 1152921504606846976) (hm : n ≤ 1152921504606846976) :
    Calls Try.prog 11 #[.agg #[.int .i64 nx, .slice A n c], .int .i64 k0] w fun e w' => e = .returned (.int .i64 ((k0 + 2 * n : Nat) : Int)) ∧ w'.ownsRow base 46 2 (.slice A n c) n (encC (mkC k0 n)) ∧ w.grownBy w' (Value.slice A n c).ownBlock := by
  have hb0 := bbox w (.int .i64 nx) (.slice A n c) 28
  go_enter Try.func11, Try.ntmps11
  go_wp2_with fail
  refine (markChunkS_any k0 (own_step hown hb0) (Nat.le_trans hbase hb0.size) hk0 hk1 hm).mono ?_
  rintro e w1 ⟨rfl, ho1, hg1⟩
  obtain ⟨z, hz⟩ : ∃ z : Int, ((k0 + 2 * n : Nat) : Int) = z := ⟨_, rfl⟩
  rw [hz]
  go_wp2
  go_ret
  refine ⟨ret_int hz.symm, ho1, ?_⟩
  exact ⟨hg1.os.trans hb0.os, hg1.tape.trans hb0.tape, hg1.output.trans hb0.output, Nat.le_trans hb0.size hg1.size, fun k hk hne => (hg1.block k (Nat.lt_of_lt_of_le hk hb0.size) hne).trans (hb0.block k hk)⟩
end Go.Proofs.Ytnndhkdigmkddaa
