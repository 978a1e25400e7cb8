/- The walks of the reference's pop and end: the state behind each. Conditions: the state is in order and not great. -/
import Derived.Test.YtojcphfonbdlpaaRefD
namespace Go.Proofs.Ytojcphfonbdlpaa
open Go.RowKit

set_option maxHeartbeats 1000000 in
theorem rpop_any (base k : Nat) (s : Lv.S) (A : Option Addr) (n c : Nat) (w : World) (h : Stk w base 49 A n c s.stk) (hok : Lv.Ok k s) (hk : k ≤ 1000) :
    Calls Try.prog 22 #[.agg #[.slice A n c, .int .i64 (s.iso : Int), .int .i64 (s.emb : Int), .int .i64 (s.val : Int)]] w (RetRS base w (Lv.pop s)) := by
  have hcap := h.cap
  have HS := Lib.hid h
  have HK := Lib.hid hok
  have htop := hok.top
  have hW0 : Below w.heap.size w ((w.alloc (.cells #[.slice A n c, .int .i64 (s.iso : Int), .int .i64 (s.emb : Int), .int .i64 (s.val : Int)] 46)).alloc (.cells #[.slice none 0 0, .int .i64 0, .int .i64 0, .int .i64 0] 46)) := ((Below.refl _ _).alloc (Nat.le_refl _) _).alloc (by simp) _
  have hs1 := h.below hW0 (Nat.le_refl _)
  have hf0 := rfld0
  have bx0 : ((w.alloc (.cells #[.slice A n c, .int .i64 (s.iso : Int), .int .i64 (s.emb : Int), .int .i64 (s.val : Int)] 46)).alloc (.cells #[.slice none 0 0, .int .i64 0, .int .i64 0, .int .i64 0] 46)).heap[w.heap.size]? = some (.cells #[.slice A n c, .int .i64 (s.iso : Int), .int .i64 (s.emb : Int), .int .i64 (s.val : Int)] 46 (0, 0)) := (Below.heap_alloc _ _ _ (by simp)).trans (heap_alloc_new w _)
  have rs0 : ((w.alloc (.cells #[.slice A n c, .int .i64 (s.iso : Int), .int .i64 (s.emb : Int), .int .i64 (s.val : Int)] 46)).alloc (.cells #[.slice none 0 0, .int .i64 0, .int .i64 0, .int .i64 0] 46)).heap[w.heap.size + 1]? = some (.cells #[.slice none 0 0, .int .i64 0, .int .i64 0, .int .i64 0] 46 (0, 0)) := by
    have := heap_alloc_new (w.alloc (.cells #[.slice A n c, .int .i64 (s.iso : Int), .int .i64 (s.emb : Int), .int .i64 (s.val : Int)] 46)) (.cells #[.slice none 0 0, .int .i64 0, .int .i64 0, .int .i64 0] 46)
    simpa using this
  have BX0 := Lib.hid bx0
  have RS0 := Lib.hid rs0
  clear bx0 rs0
  have hi1 := hok.2.2.2.1
  have hi2 := hok.2.2.2.2.1
  have hi3 : s.val ≤ s.stk.length := by rw [← hok.2.1]; exact List.length_filter_le _ _
  have hi4 := hok.2.2.2.2.2
  have hst : s.stk.length = n := h.1
  have HN := Lib.hid hst
  have hvn : s.val ≤ 1000002 := by omega
  have hn0 : n ≤ 1002 := by omega
  by_cases h1 : 0 < s.iso
  · have he : Lv.pop s = s := by unfold Lv.pop; rw [if_pos h1]
    rw [he]
    clear he
    clear h hok hst hs1
    go_enter Try.func22, Try.ntmps22
    go_wp2_with fail
    refine bodyPost_ret (v := .agg #[.slice A n c, .int .i64 (s.iso : Int), .int .i64 (s.emb : Int), .int .i64 (s.val : Int)]) (by simp only [results, Try.results22]; go_simp) rfl ?_
    exact RetRS.keep (s := s) HS.out rfl rfl rfl (by repeat (first | refine Below.setCell ?_ (by simp) _ | refine Below.alloc ?_ (by simp <;> omega) _ | exact Below.refl _ _))
  · have d1 : decide ((0 : Int) < (s.iso : Int)) = false := by simp; omega
    by_cases h2 : 0 < s.emb
    · have he : Lv.pop s = { s with emb := s.emb - 1 } := by unfold Lv.pop; rw [if_neg h1, if_pos h2]
      rw [he]
      clear he
      clear h hok hst hs1
      go_enter Try.func22, Try.ntmps22
      go_wp2_with fail
      refine bodyPost_ret (v := .agg #[.slice A n c, .int .i64 (s.iso : Int), .int .i64 ((s.emb : Int) - 1), .int .i64 (s.val : Int)]) (by simp only [results, Try.results22]; go_simp) rfl ?_
      exact RetRS.keep (s := { s with emb := s.emb - 1 }) HS.out rfl (by simp; omega) rfl (by repeat (first | refine Below.setCell ?_ (by simp) _ | refine Below.alloc ?_ (by simp <;> omega) _ | exact Below.refl _ _))
    · have d2 : decide ((0 : Int) < (s.emb : Int)) = false := by simp; omega
      obtain ⟨r, hr⟩ := hok.cons
      have hH := h
      rw [hr] at hH
      obtain ⟨hlt, g, rfl, hg, hgs, q0, q1, q2⟩ := Stk.at_ (f := []) hH
      have hl : n = r.length + 1 := by have := hH.1; simp at this; omega
      have hle1 : n ≤ r.length + 1 := by omega
      have hle2 : r.length + 1 ≤ n := by omega
      have hf2 := rfld2
      rcases ht : (Lv.top s).is with _ | _
      · rcases r with _ | ⟨e2, r⟩
        · have he : Lv.pop s = s := by unfold Lv.pop; rw [if_neg h1, if_neg h2, if_neg (by rw [hr]; simp)]
          rw [he]
          have HT := Lib.hid ht
          clear he hr hH hl ht
          clear h hok hst hs1
          simp at hle1
          have hn1 : ((n : Int) > 1) = False := by simp; omega
          have d3 : decide ((1 : Int) < (n : Int)) = false := by simp; omega
          clear hn1
          go_enter Try.func22, Try.ntmps22
          go_wp2_with fail
          refine (rlast_any base k s _ n c _ _ _ _ (HS.out.below hW0 (Nat.le_refl _)) HK.out (by omega)).mono ?_
          rw [HT.out]
          rintro e w1 ⟨rfl, hb1⟩
          have BX1 := Lib.hid ((hb1.block w.heap.size (by simp <;> omega)).trans BX0.out)
          have RS1 := Lib.hid ((hb1.block (w.heap.size + 1) (by simp <;> omega)).trans RS0.out)
          obtain ⟨p0, p1, p2, p3, f0, f1, f2, f3⟩ := blk4 BX1.out
          obtain ⟨r0, r1, r2, r3, g0, g1, g2, g3⟩ := blk4 RS1.out
          have hfin := hW0.trans (hb1.mono (by simp; omega))
          go_wp2_with fail
          refine bodyPost_ret (v := .agg #[.slice (some ⟨g, 0, none⟩) n c, .int .i64 (s.iso : Int), .int .i64 (s.emb : Int), .int .i64 (s.val : Int)]) (by simp only [results, Try.results22]; go_simp) rfl ?_
          exact RetRS.keep (s := s) HS.out rfl rfl rfl (by repeat (first | refine Below.setCell ?_ (by simp) _ | exact hfin))
        · have he : Lv.pop s = { s with stk := e2 :: r } := by
            unfold Lv.pop
            rw [if_neg h1, if_neg h2, if_pos ⟨ht, by rw [hr]; simp⟩, hr]
            rfl
          rw [he]
          have HT := Lib.hid ht
          have hcut := Stk.cut (f := [Lv.top s]) (r := e2 :: r) (m := n - 1) hH (by simp at hle1 hle2 ⊢; omega)
          have HCUT := Lib.hid hcut
          clear he hr hH hl ht hcut
          clear h hok hst hs1
          simp at hle1 hle2
          have d3 : decide ((1 : Int) < (n : Int)) = true := by simp; omega
          go_enter Try.func22, Try.ntmps22
          go_wp2_with fail
          refine (rlast_any base k s _ n c _ _ _ _ (HS.out.below hW0 (Nat.le_refl _)) HK.out (by omega)).mono ?_
          rw [HT.out]
          rintro e w1 ⟨rfl, hb1⟩
          have BX1 := Lib.hid ((hb1.block w.heap.size (by simp <;> omega)).trans BX0.out)
          have RS1 := Lib.hid ((hb1.block (w.heap.size + 1) (by simp <;> omega)).trans RS0.out)
          obtain ⟨p0, p1, p2, p3, f0, f1, f2, f3⟩ := blk4 BX1.out
          obtain ⟨r0, r1, r2, r3, g0, g1, g2, g3⟩ := blk4 RS1.out
          have hfin := hW0.trans (hb1.mono (by simp; omega))
          go_wp2_with fail
          refine bodyPost_ret (v := .agg #[.slice (some ⟨g, 0, none⟩) (n - 1) c, .int .i64 (s.iso : Int), .int .i64 (s.emb : Int), .int .i64 (s.val : Int)]) (by simp only [results, Try.results22]; go_simp) rfl ?_
          exact RetRS.keep (s := { s with stk := e2 :: r }) HCUT.out rfl rfl rfl (by repeat (first | refine Below.setCell ?_ (by simp) _ | exact hfin))
      · have he : Lv.pop s = s := by unfold Lv.pop; rw [if_neg h1, if_neg h2, if_neg (by rw [ht]; simp)]
        rw [he]
        have HT := Lib.hid ht
        clear he hr hH hl ht
        clear h hok hst hs1
        go_enter Try.func22, Try.ntmps22
        go_wp2_with fail
        refine (rlast_any base k s _ n c _ _ _ _ (HS.out.below hW0 (Nat.le_refl _)) HK.out (by omega)).mono ?_
        rw [HT.out]
        rintro e w1 ⟨rfl, hb1⟩
        have BX1 := Lib.hid ((hb1.block w.heap.size (by simp <;> omega)).trans BX0.out)
        have RS1 := Lib.hid ((hb1.block (w.heap.size + 1) (by simp <;> omega)).trans RS0.out)
        obtain ⟨p0, p1, p2, p3, f0, f1, f2, f3⟩ := blk4 BX1.out
        obtain ⟨r0, r1, r2, r3, g0, g1, g2, g3⟩ := blk4 RS1.out
        have hfin := hW0.trans (hb1.mono (by simp; omega))
        go_wp2_with fail
        refine bodyPost_ret (v := .agg #[.slice (some ⟨g, 0, none⟩) n c, .int .i64 (s.iso : Int), .int .i64 (s.emb : Int), .int .i64 (s.val : Int)]) (by simp only [results, Try.results22]; go_simp) rfl ?_
        exact RetRS.keep (s := s) HS.out rfl rfl rfl (by repeat (first | refine Below.setCell ?_ (by simp) _ | exact hfin))

theorem popIso_not {e : Lv.Ent} {r : List Lv.Ent} (h : e.is = false) : Lv.popIso (e :: r) = Lv.popIso r := by simp [Lv.popIso, h]

/-- the last isolate is sought: entry by entry from the top -/
def SeekIso (s : Lv.S) (n : Value) : Prop := ∃ (f r : List Lv.Ent) (e : Lv.Ent), n = .int .i64 ((r.length : Int) + 1) ∧ s.stk = f ++ e :: r ∧ Lv.popIso (e :: r) = Lv.popIso s.stk ∧ 0 < ((e :: r).filter (·.is)).length

set_option maxHeartbeats 1000000 in
theorem rend_any (base k : Nat) (s : Lv.S) (A : Option Addr) (n c : Nat) (w : World) (h : Stk w base 49 A n c s.stk) (hok : Lv.Ok k s) (hk : k ≤ 1000) :
    Calls Try.prog 26 #[.agg #[.slice A n c, .int .i64 (s.iso : Int), .int .i64 (s.emb : Int), .int .i64 (s.val : Int)]] w (RetRS base w (Lv.endI s)) := by
  have hcap := h.cap
  have HS := Lib.hid h
  have HK := Lib.hid hok
  have htop := hok.top
  have hW0 : Below w.heap.size w ((w.alloc (.cells #[.slice A n c, .int .i64 (s.iso : Int), .int .i64 (s.emb : Int), .int .i64 (s.val : Int)] 46)).alloc (.cells #[.slice none 0 0, .int .i64 0, .int .i64 0, .int .i64 0] 46)) := ((Below.refl _ _).alloc (Nat.le_refl _) _).alloc (by simp) _
  have hs1 := h.below hW0 (Nat.le_refl _)
  have hf0 := rfld0
  have bx0 : ((w.alloc (.cells #[.slice A n c, .int .i64 (s.iso : Int), .int .i64 (s.emb : Int), .int .i64 (s.val : Int)] 46)).alloc (.cells #[.slice none 0 0, .int .i64 0, .int .i64 0, .int .i64 0] 46)).heap[w.heap.size]? = some (.cells #[.slice A n c, .int .i64 (s.iso : Int), .int .i64 (s.emb : Int), .int .i64 (s.val : Int)] 46 (0, 0)) := (Below.heap_alloc _ _ _ (by simp)).trans (heap_alloc_new w _)
  have rs0 : ((w.alloc (.cells #[.slice A n c, .int .i64 (s.iso : Int), .int .i64 (s.emb : Int), .int .i64 (s.val : Int)] 46)).alloc (.cells #[.slice none 0 0, .int .i64 0, .int .i64 0, .int .i64 0] 46)).heap[w.heap.size + 1]? = some (.cells #[.slice none 0 0, .int .i64 0, .int .i64 0, .int .i64 0] 46 (0, 0)) := by
    have := heap_alloc_new (w.alloc (.cells #[.slice A n c, .int .i64 (s.iso : Int), .int .i64 (s.emb : Int), .int .i64 (s.val : Int)] 46)) (.cells #[.slice none 0 0, .int .i64 0, .int .i64 0, .int .i64 0] 46)
    simpa using this
  have BX0 := Lib.hid bx0
  have RS0 := Lib.hid rs0
  clear bx0 rs0
  have hi1 := hok.2.2.2.1
  have hi2 := hok.2.2.2.2.1
  have hi3 : s.val ≤ s.stk.length := by rw [← hok.2.1]; exact List.length_filter_le _ _
  have hi4 := hok.2.2.2.2.2
  have hst : s.stk.length = n := h.1
  have HN := Lib.hid hst
  have hvn : s.val ≤ 1000002 := by omega
  have hn0 : n ≤ 1002 := by omega
  by_cases h1 : 0 < s.iso
  · have he : Lv.endI s = { s with iso := s.iso - 1 } := by unfold Lv.endI; rw [if_pos h1]
    rw [he]
    clear he
    clear h hok hst hs1
    go_enter Try.func26, Try.ntmps26
    go_wp2_with fail
    refine bodyPost_ret (v := .agg #[.slice A n c, .int .i64 ((s.iso : Int) - 1), .int .i64 (s.emb : Int), .int .i64 (s.val : Int)]) (by simp only [results, Try.results26]; go_simp) rfl ?_
    exact RetRS.keep (s := { s with iso := s.iso - 1 }) HS.out (by simp; omega) rfl rfl (by repeat (first | refine Below.setCell ?_ (by simp) _ | refine Below.alloc ?_ (by simp <;> omega) _ | exact Below.refl _ _))
  · have d1 : decide ((0 : Int) < (s.iso : Int)) = false := by simp; omega
    by_cases h2 : s.val = 0
    · have he : Lv.endI s = s := by unfold Lv.endI; rw [if_neg h1, if_pos h2]
      rw [he]
      have d2 : ((s.val : Int) == 0) = true := by simp [h2]
      clear he h2
      clear h hok hst hs1
      go_enter Try.func26, Try.ntmps26
      go_wp2_with fail
      refine bodyPost_ret (v := .agg #[.slice A n c, .int .i64 (s.iso : Int), .int .i64 (s.emb : Int), .int .i64 (s.val : Int)]) (by simp only [results, Try.results26]; go_simp) rfl ?_
      exact RetRS.keep (s := s) HS.out rfl rfl rfl (by repeat (first | refine Below.setCell ?_ (by simp) _ | refine Below.alloc ?_ (by simp <;> omega) _ | exact Below.refl _ _))
    · have he : Lv.endI s = { s with emb := 0, stk := Lv.popIso s.stk, val := s.val - 1 } := by unfold Lv.endI; rw [if_neg h1, if_neg h2]
      rw [he]
      have d2 : ((s.val : Int) == 0) = false := by simp [h2]
      have hv1 : 1 ≤ s.val := by omega
      obtain ⟨r0, hr0⟩ := hok.cons
      have hpos : 0 < (s.stk.filter (·.is)).length := by rw [hok.2.1]; omega
      have hH := h
      rw [hr0] at hH
      obtain ⟨_, g, rfl, hg, hgs, _, _, _⟩ := Stk.at_ (f := []) hH
      have hl : n = r0.length + 1 := by have := hH.1; simp at this; omega
      have HR0 := Lib.hid hr0
      have HP := Lib.hid hpos
      have HL := Lib.hid hl
      clear he h2 hr0 hH hl hpos
      clear h hok hst hs1
      go_enter Try.func26, Try.ntmps26
      go_wp2_with fail
      go_loop [3] (fun n => SeekIso s n) (fun n => (intOf n).toNat)
      case atStart => exact ⟨[], r0, Lv.top s, by rw [HL.out]; go_num, HR0.out, by rw [← HR0.out], by rw [← HR0.out]; exact HP.out⟩
      case round =>
        obtain ⟨f, r, e, rfl, hs, hp, hc⟩ := hrel
        have hS := HS.out
        rw [hs] at hS
        obtain ⟨hlt, g', e1, _, _, q0, q1, q2⟩ := Stk.at_ hS
        cases e1
        have hrn : r.length < n := hlt
        have hq : ∀ W, Below w.heap.size w W → W.cell? ⟨g, r.length * 3 + 2, none⟩ = some (.bool e.is) := fun W hW => (hW.cell (p := ⟨g, r.length * 3 + 2, none⟩) hgs).trans q2
        have hq1 := hq _ (((Below.refl w.heap.size w).alloc (Nat.le_refl _) (.cells #[.slice (some ⟨g, 0, none⟩) n c, .int .i64 (s.iso : Int), .int .i64 0, .int .i64 (s.val : Int)] 46)).alloc (by simp) (.cells #[.slice none 0 0, .int .i64 0, .int .i64 0, .int .i64 0] 46))
        rcases he : e.is with _ | _
        · rw [he] at hq1
          rcases r with _ | ⟨e2, r⟩
          · simp [he] at hc
          · have HS2 := Lib.hid hs
            have HP2 := Lib.hid hp
            have HC2 := Lib.hid hc
            have HE := Lib.hid he
            simp only [List.length_cons] at hq1
            clear hs hp hc hS hq q0 q1 q2 he hlt
            simp only [List.length_cons] at hrn
            go_wp2_with fail
            go_round
            case rel => exact ⟨f ++ [e], r, e2, by simp, by rw [HS2.out]; simp, by rw [← HP2.out, popIso_not HE.out], by have := HC2.out; simpa [HE.out] using this⟩
            case measure => simp [intOf]; omega
        · rw [he] at hq1
          have hpe : Lv.popIso s.stk = r := by rw [← hp, Lv.popIso, he]; rfl
          have hcut := Stk.cut (f := f ++ [e]) (r := r) (m := r.length) (by rw [List.append_assoc]; exact hS) rfl
          have HCUT := Lib.hid hcut
          have HPE := Lib.hid hpe
          clear hs hp hc hS hq q0 q1 q2 he hlt hpe hcut
          go_wp2_with fail
          refine bodyPost_ret (v := .agg #[.slice (some ⟨g, 0, none⟩) r.length c, .int .i64 (s.iso : Int), .int .i64 0, .int .i64 ((s.val : Int) - 1)]) (by simp only [results, Try.results26]; go_simp) rfl ?_
          exact RetRS.keep (s := { s with emb := 0, stk := Lv.popIso s.stk, val := s.val - 1 }) (by show Stk _ _ _ _ _ _ (Lv.popIso s.stk); rw [HPE.out]; exact HCUT.out) rfl rfl (by simp; omega) (by repeat (first | refine Below.setCell ?_ (by simp) _ | refine Below.alloc ?_ (by simp <;> omega) _ | exact Below.refl _ _))

end Go.Proofs.Ytojcphfonbdlpaa
