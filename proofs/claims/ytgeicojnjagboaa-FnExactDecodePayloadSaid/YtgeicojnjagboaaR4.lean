/- impl.readQuics with one pointer. No conditions. -/
import Derived.Test.YtgeicojnjagboaaR2
namespace Go.Proofs.Ytgeicojnjagboaa
open Go.ChangeShapes Go.WideShapes Go.ChangeAt Go.RowKit Go.Sort QM
set_option linter.unusedVariables false
set_option linter.unusedSimpArgs false
theorem Bk.drew {w : World} {g : Nat} {T : TypeId} {cs : Array Value} (h : Bk w g T cs) : Bk w.drew g T cs := h
theorem iRd1_none (s : ByteArray) (hs : s.size ≤ 1048576) (p b c g o : Nat) (T Tp : TypeId) (cs : Array Value) (w : World) (hbg : b ≠ g) (hbp : Bk w b Tp #[.pointer (some ⟨g, o, none⟩)]) (hbk : Bk w g T cs) (ho : o < cs.size) (hd : dq s p = none) :
    Calls Try.prog 97 #[.string s, .int .i64 p, .slice (some ⟨b, 0, none⟩) 1 c] w fun e w' => Keep g w w' ∧ e = .returned (.tuple #[.int .i64 0, .bool false]) := by
  refine (iRdQ s hs p b c 1 g T Tp [o] cs w rfl (by omega) hbg hbp hbk (by simpa using ho)).mono ?_
  rintro e w' ⟨hk, h | ⟨L, q, h, _⟩⟩
  · exact ⟨hk, h.2.1⟩
  · simp [rdN, hd] at h
theorem iRd1_some (s : ByteArray) (hs : s.size ≤ 1048576) (p b c g o n k q : Nat) (T Tp : TypeId) (cs : Array Value) (w : World) (hbg : b ≠ g) (hbp : Bk w b Tp #[.pointer (some ⟨g, o, none⟩)]) (hbk : Bk w g T cs) (ho : o < cs.size) (hd : dq s p = some (n, k)) (hq : (p : Int) + k = q) :
    Calls Try.prog 97 #[.string s, .int .i64 p, .slice (some ⟨b, 0, none⟩) 1 c] w fun e w' => Keep g w w' ∧ e = .returned (.tuple #[.int .i64 q, .bool true]) ∧ Bk w' g T (cs.setIfInBounds o (.int .i64 n)) := by
  refine (iRdQ s hs p b c 1 g T Tp [o] cs w rfl (by omega) hbg hbp hbk (by simpa using ho)).mono ?_
  rintro e w' ⟨hk, ⟨h, _⟩ | ⟨L, q', h, he, hb⟩⟩
  · simp [rdN, hd] at h
  · simp [rdN, hd] at h
    obtain ⟨rfl, h2⟩ := h
    rw [← h2, hq] at he
    exact ⟨hk, he, hb⟩
end Go.Proofs.Ytgeicojnjagboaa
