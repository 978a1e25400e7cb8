/- The walk of kept: the places of the signs that stay, in a list of the call's own. Condition: at most a thousand classes. -/
import Derived.Test.YtojcphfonbdlpaaSeqA
namespace Go.Proofs.Ytojcphfonbdlpaa.Sq
open Lv (removed)
/-- the places of what is not removed -/
def keptF : Nat → List Int → List Int
  | _, [] => []
  | i, c :: cs => if removed c = true then keptF (i + 1) cs else (i : Int) :: keptF (i + 1) cs
theorem keptF_length : ∀ (i : Nat) (cs : List Int), (keptF i cs).length ≤ cs.length
  | _, [] => Nat.le_refl _
  | i, c :: cs => by
    have := keptF_length (i + 1) cs
    unfold keptF
    split <;> simp <;> omega
end Go.Proofs.Ytojcphfonbdlpaa.Sq
namespace Go.Proofs.Ytojcphfonbdlpaa
open Go.RowKit

/-- Up to a place the kept ones are told. -/
def KeptRel (w0 : World) (cs : List Int) (v i : Value) (wr : World) : Prop :=
  ∃ (k m : Nat) (pre r done : List Int) (A : Option Addr) (c : Nat), i = .int .i64 (k : Int) ∧ v = .slice A m c ∧ pre.length = k ∧ cs = pre ++ r ∧ m ≤ k ∧ Own wr w0.heap.size 3 A m c done ∧ done ++ Sq.keptF k r = Sq.keptF 0 cs ∧ Below w0.heap.size w0 wr

set_option maxHeartbeats 2000000 in
theorem kept_any (B : Nat) (A : Option Addr) (n c : Nat) (cs : List Int) (w : World) (h : Ints w B A n c cs) (hB : B ≤ w.heap.size) (hn : n ≤ 1000) :
    Calls Try.prog 43 #[.slice A n c] w (RetOwn 3 w (Sq.keptF 0 cs).length (Sq.keptF 0 cs)) := by
  have hcap := h.cap
  have hl := h.length
  have HI := Lib.hid h
  clear h
  go_enter Try.func43, Try.ntmps43
  go_wp2_with fail
  go_loopw [3, 4] (fun v i wr => KeptRel w cs v i wr) (fun _ i _ => n - (intOf i).toNat)
  case atStart => exact ⟨0, 0, [], cs, [], none, 0, rfl, rfl, rfl, rfl, Nat.le_refl _, Own.nil_ _ _ _, rfl, Below.refl _ _⟩
  case round =>
    obtain ⟨k, m, pre, r, done, Ao, co, rfl, rfl, hk, hz, hmk, ho, ht, hbel⟩ := hrel
    have hs := hbel.size
    rcases r with _ | ⟨x, r⟩
    · have hge : n ≤ k := by rw [hz] at hl; simp at hl; omega
      have HO := Lib.hid ho
      have HT := Lib.hid ht
      clear hz hk ho ht hl
      go_wp2_with fail
      go_ret
      have ht := HT.out
      simp only [Sq.keptF, List.append_nil] at ht
      have ho := HO.out
      rw [ht] at ho
      have hm := ho.length
      exact ⟨Ao, co, by rw [hm]; rfl, by rw [hm]; exact ho, hbel⟩
    · have hlt : k < n := by rw [hz] at hl; simp at hl; omega
      obtain ⟨b, of, rfl, hbb, hcx⟩ := (HI.out.below (hbel.mono hB)).get (k := k) (x := x) (by rw [hz, ← hk]; simp)
      have HZ := Lib.hid hz
      have HK := Lib.hid hk
      have HO := Lib.hid ho
      have HT := Lib.hid ht
      clear hz hk ho ht hl
      rcases hrm : Lv.removed x with _ | _
      · have HR := Lib.hid hrm
        clear hrm
        go_wp2_with (first
          | (go_at_call 11; refine (rremoved_any x false HR.out _).mono ?_; rintro e w3 ⟨rfl, rfl⟩)
          | (at_builtin; refine wpList_append_ints _ rfl (.tmp 17) (.tmp 19) 22 rfl w.heap.size 3 Try.underlying22 Try.infoInt Ao m co done rfl (HO.out.alloc _) (wr.heap.size + 1) (some ⟨wr.heap.size, 0, none⟩) 1 1 [(k : Int)] rfl (Ints.lit_at _ [(k : Int)] _ _ (by omega) rfl rfl (by simp)) (by omega) (by simp; omega) ?_; intro A3 c3 w3 ho3 hg3 hb3; have hb4 := below_append (hbel.alloc hs (.cells #[.int .i64 (k : Int)] 3)) (by simp; omega) hg3 (HO.out.alloc _) (Nat.le_refl _)))
        go_roundw
        case rel => exact ⟨k + 1, m + 1, pre ++ [x], r, done ++ [(k : Int)], A3, c3, by go_num, rfl, by simp [HK.out], by simp [HZ.out], by omega, ho3, by rw [← HT.out]; simp [Sq.keptF, HR.out], hb4⟩
        case measure => simp [intOf]; omega
      · have HR := Lib.hid hrm
        clear hrm
        go_wp2_with (go_at_call 11; refine (rremoved_any x true HR.out _).mono ?_; rintro e w3 ⟨rfl, rfl⟩)
        go_roundw
        case rel => exact ⟨k + 1, m, pre ++ [x], r, done, Ao, co, by go_num, rfl, by simp [HK.out], by simp [HZ.out], by omega, HO.out, by rw [← HT.out]; simp [Sq.keptF, HR.out], hbel⟩
        case measure => simp [intOf]; omega

end Go.Proofs.Ytojcphfonbdlpaa
