/- The walks of the reference's Same at equal lists of pairs, of its Pairs at lists of two lengths, and of the law BracketsPairs. Condition: the table of last signs lies as laid; the sort sorts. -/
import Derived.Test.YtbpaogmnaodcaaaDoorRefU
import Derived.Test.YtbpaogmnaodcaaaDoorQuietA
import Derived.Test.YtbpaogmnaodcaaaDoorNestA
import Derived.Laws.StructEq
namespace Go.Proofs.YtbpaogmnaodcaaaDoor
open Go.RowKit

theorem eq2 (a b c d : Int) (w : World) : (Op.equalIn 10000 29 (.agg #[.int .i64 a, .int .i64 b]) (.agg #[.int .i64 c, .int .i64 d])).run Tryd.prog w = .ok (a == c && b == d) w := by
  have u3 := Tryd.underlying3
  have a3 := Tryd.isAgg3
  have z3 := Tryd.sizeOf3
  rw [show (10000 : Nat) = 9999 + 1 from rfl, Op.equalIn]
  simp only [Sem.run_bind, run_underlying Tryd.underlying29, Result.andThen_ok]
  simp only [Std.Legacy.Range.forIn_eq_forIn_range', Std.Legacy.Range.size, Nat.sub_zero, Nat.add_sub_cancel, Nat.div_one, List.range'_succ, List.range'_zero, List.forIn_cons, List.forIn_nil]
  go_simp
  by_cases h1 : a = c <;> by_cases h2 : b = d <;> simp [h1, h2]
theorem neq2 (a b : Int) (w : World) : (binOp .neq 29 (.agg #[.int .i64 a, .int .i64 b]) (.agg #[.int .i64 a, .int .i64 b])).run Tryd.prog w = .ok (.bool false) w := by
  rw [run_neq_struct, eq2]
  simp

set_option maxHeartbeats 1000000 in
theorem rsame_pairs (base base2 : Nat) (A A2 : Option Addr) (n c c2 : Nat) (l : List (Int × Int)) (w : World) (h : Row2 .i64 w base 29 A n c l) (h2 : Row2 .i64 w base2 29 A2 n c2 l) :
    Calls Tryd.prog 9 #[.slice A n c, .slice A2 n c2] w (Says true w) := by
  have hcap := h.cap
  have hcap2 := h2.cap
  have hnn : ((n : Int) != (n : Int)) = false := by simp
  have hl := h.1
  have HL := Lib.hid hl
  have HA := Lib.hid h
  have HA2 := Lib.hid h2
  clear h h2 hl
  go_enter Tryd.func9, Tryd.ntmps9
  go_wp2_with fail
  go_loopw [5] (fun i wr => ∃ (k q : Nat), i = .int .i64 (k : Int) ∧ k ≤ n ∧ wr = w.drewN q) (fun i _ => n - (intOf i).toNat)
  case atStart => exact ⟨0, 0, rfl, Nat.zero_le _, rfl⟩
  case round =>
    obtain ⟨k, q, rfl, hk, rfl⟩ := hrel
    by_cases hlt : k < n
    · obtain ⟨⟨x, y⟩, hx⟩ : ∃ p, l[k]? = some p := ⟨_, List.getElem?_eq_getElem (by rw [HL.out]; exact hlt)⟩
      obtain ⟨_, g, rfl, _, _, c1, c3⟩ := HA.out.at_ hx
      obtain ⟨_, g2, rfl, _, _, d1, d3⟩ := HA2.out.at_ hx
      have hne := fun W => neq2 x y W
      simp only at c1 c3 d1 d3
      clear hx
      go_wp2_with fail
      go_quiet (fail)
      go_wp2
      go_roundw
      case rel => exact ⟨k + 1, _, by go_num, by omega, rfl⟩
      case measure => simp [intOf]; omega
    · have hge : n ≤ k := by omega
      go_wp2
      go_ret
      exact ⟨rfl, _, rfl⟩

set_option maxHeartbeats 400000 in
theorem rpairs_uneven (A A2 : Option Addr) (n c n2 c2 : Nat) (hnn : n ≠ n2) (w : World) :
    Calls Tryd.prog 11 #[.slice A n c, .slice A2 n2 c2] w fun e w' => e = .returned (.slice none 0 0) ∧ w = w' := by
  have d1 : ((n : Int) != (n2 : Int)) = true := by
    have h1 : (n : Int) ≠ (n2 : Int) := by omega
    simp [bne, h1]
  clear hnn
  go_enter Tryd.func11, Tryd.ntmps11
  go_wp2_with fail
  go_ret
  exact ⟨rfl, rfl⟩

set_option maxRecDepth 100000 in
set_option maxHeartbeats 4000000 in
theorem pairs_walk (A A2 : Option Addr) (n c n2 c2 : Nat) (rs cs : List Int) (w : World) (h : Runes w w.heap.size A n c rs) (h2 : Ints w w.heap.size A2 n2 c2 cs) (hL : Lasts w) (hS : SortOk) :
    Calls Tryd.prog 3 #[.slice A n c, .slice A2 n2 c2] w fun e w' => e = .returned (.bool true) ∧ Below w.heap.size w w' := by
  have hcap := h.cap
  have hcap2 := h2.cap
  have hpos := hL.pos
  have HI := Lib.hid h
  have HI2 := Lib.hid h2
  have HLA := Lib.hid hL
  clear h h2 hL
  by_cases hlong : 150 < n ∨ 150 < n2
  · have HLG := Lib.hid hlong
    clear hlong
    go_enter Tryd.func3, Tryd.ntmps3
    go_wp2_with (go_at_call 8; refine (long_yes A A2 n c n2 c2 HLG.out _).mono ?_; rintro e w9 ⟨rfl, rfl⟩)
    go_ret
    exact ⟨rfl, Below.refl _ _⟩
  · have hn : ¬ 150 < n := by omega
    have hn2 : ¬ 150 < n2 := by omega
    have HNN := Lib.hid (And.intro hn hn2)
    clear hlong hn hn2
    by_cases hnn : n = n2
    · subst hnn
      have hpr := fun W (hb : Below w.heap.size w W) => pairs_any w.heap.size A A2 n c c2 rs cs W (HI.out.below hb) (HI2.out.below hb) hb.size (by have := HNN.out; omega) (HLA.out.below hb hpos) hS
      have hrp := fun W (hb : Below w.heap.size w W) => rpairs_any w.heap.size A A2 n c c2 rs cs W (HI.out.below hb) (HI2.out.below hb) hb.size (by have := HNN.out; omega)
      have hone := fun l5 m5 h1 h2 h3 h4 => order_one (RS := rs) (CS := cs) (l := l5) (m := m5) h1 h2 h3 h4
      obtain ⟨l, hl⟩ : ∃ l, l = prs 0 [] [] rs cs := ⟨_, rfl⟩
      rw [← hl] at hpr hrp hone
      obtain ⟨m, hm⟩ : ∃ m, m = l.length := ⟨_, rfl⟩
      have HPR := Lib.hid hpr
      have HRP := Lib.hid hrp
      have HON := Lib.hid hone
      have HM := Lib.hid hm
      clear hpr hrp hone hl hm
      go_enter Tryd.func3, Tryd.ntmps3
      go_wp2_with (first
        | (go_at_call 8; refine (long_no A A2 n c n c2 HNN.out.1 HNN.out.2 _).mono ?_; rintro e w9 ⟨rfl, rfl⟩)
        | (go_at_call 10; refine (HPR.out _ (Below.refl _ _)).mono ?_; rintro e w3 ⟨Ap, cp, l5, rfl, hperm, hpw, hrow, hb3⟩; have HP3 := Lib.hid (And.intro hperm hpw); have HR3 := Lib.hid hrow; have HB3 := Lib.hid hb3; clear hperm hpw hrow hb3)
        | (go_at_call 11; refine (HRP.out _ HB3.out).mono ?_; rintro e w4 ⟨Aq, cq, l6, rfl, hperm, hpw, hrow, hb4⟩; have HR4 := Lib.hid (show Row2 .i64 w4 _ _ _ _ _ l5 from (HON.out l5 l6 HP3.out.1 HP3.out.2 hperm hpw) ▸ hrow); have HR34 := Lib.hid (HR3.out.below hb4 (Nat.le_refl _)); have HB4 := Lib.hid (HB3.out.trans (hb4.mono HB3.out.size)); clear hperm hpw hrow hb4)
        | (go_at_call 9; refine (rsame_pairs _ _ Ap Aq l.length cp cq l5 _ HR34.out HR4.out).mono ?_; rintro e w5 ⟨rfl, q5, rfl⟩))
      go_ret
      exact ⟨rfl, below_drewN HB4.out q5⟩
    · have HNE := Lib.hid hnn
      clear hnn
      go_enter Tryd.func3, Tryd.ntmps3
      go_wp2_with (first
        | (go_at_call 8; refine (long_no A A2 n c n2 c2 HNN.out.1 HNN.out.2 _).mono ?_; rintro e w9 ⟨rfl, rfl⟩)
        | (go_at_call 10; refine (pairs_uneven A A2 n c n2 c2 HNE.out _).mono ?_; rintro e w3 ⟨rfl, rfl⟩)
        | (go_at_call 11; refine (rpairs_uneven A A2 n c n2 c2 HNE.out _).mono ?_; rintro e w3 ⟨rfl, rfl⟩)
        | (go_at_call 9; refine (rsame_pairs 0 0 none none 0 0 0 [] _ (Row2.nil_ _ _ _ _) (Row2.nil_ _ _ _ _)).mono ?_; rintro e w5 ⟨rfl, q5, rfl⟩))
      go_ret
      exact ⟨rfl, below_drewN (Below.refl _ _) q5⟩

end Go.Proofs.YtbpaogmnaodcaaaDoor
