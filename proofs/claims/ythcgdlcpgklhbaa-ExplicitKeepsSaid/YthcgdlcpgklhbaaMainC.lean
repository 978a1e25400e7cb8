/- The walks of the program's pop and close: the state behind each. Conditions: the state is in order and not great. -/
import Derived.Test.YthcgdlcpgklhbaaMainB
import Derived.Deep.LoopGhost
namespace Go.Proofs.Ythcgdlcpgklhbaa
open Go.RowKit

set_option maxHeartbeats 2000000 in
theorem ppop_any (B1 k g : Nat) (base : Int) (s : Lv.S) (A : Option Addr) (m c : Nat) (w : World) (hb : PBox w g base A m c (s.iso : Int) (s.emb : Int) (s.val : Int)) (h : Stk w B1 41 A m c s.stk) (hg : B1 ≤ g) (hok : Lv.Ok k s) (hk : k ≤ 1000) :
    Calls Try.prog 21 #[.pointer (some ⟨g, 0, none⟩)] w (TurnP B1 g base w (Lv.pop s)) := by
  have htop := hok.top
  have hgl := hb.lt
  have hcap := h.cap
  have hi1 := hok.2.2.2.1
  have hi2 := hok.2.2.2.2.1
  have hi4 := hok.2.2.2.2.2
  have hi3 : s.val ≤ s.stk.length := by rw [← hok.2.1]; exact List.length_filter_le _ _
  have hst : s.stk.length = m := h.1
  have hm : m ≤ 1001 := by omega
  have HB := Lib.hid hb
  have HS := Lib.hid h
  have HK := Lib.hid hok
  obtain ⟨p0, p1, p2, p3, p4, f0, f1, f2, f3, f4⟩ := blk5 HB.out
  by_cases h1 : 0 < s.iso
  · have he : Lv.pop s = s := by unfold Lv.pop; rw [if_pos h1]
    have HE := Lib.hid he
    clear hb h hok hst
    clear he
    go_enter Try.func21, Try.ntmps21
    go_wp2_with fail
    (first | go_end0 | refine bodyPost_ret (results_none rfl _ _ _) rfl ?_)
    rw [HE.out]
    exact ⟨rfl, A, m, c, HB.out, HS.out, Keeps.refl _ _, Below.refl _ _⟩
  · have d1 : decide ((0 : Int) < (s.iso : Int)) = false := by simp; omega
    by_cases h2 : 0 < s.emb
    · have he : Lv.pop s = { s with emb := s.emb - 1 } := by unfold Lv.pop; rw [if_neg h1, if_pos h2]
      have HE := Lib.hid he
      clear hb h hok hst
      clear he
      go_enter Try.func21, Try.ntmps21
      go_wp2_with fail
      (first | go_end0 | refine bodyPost_ret (results_none rfl _ _ _) rfl ?_)
      rw [HE.out]
      have h2 := (PW.refl (B1 := B1) HB.out).set3 hg ((s.emb : Int) - 1)
      exact ⟨rfl, A, m, c, by have e : (((s.emb - 1 : Nat)) : Int) = (s.emb : Int) - 1 := by omega
                              show PBox _ g base A m c (s.iso : Int) (((s.emb - 1 : Nat)) : Int) (s.val : Int)
                              rw [e]; exact h2.1, HS.out.pset HB.out _, h2.2.1, h2.2.2⟩
    · have d2 : decide ((0 : Int) < (s.emb : Int)) = false := by simp; omega
      obtain ⟨r, hr⟩ := hok.cons
      have hH := h
      rw [hr] at hH
      obtain ⟨hlt, g', rfl, hg', hgs, q0, q1, q2⟩ := Stk.at_ (f := []) hH
      have hf2 := pfld2
      have HH := Lib.hid hH
      have hml : m = r.length + 1 := by have := hH.1; simp at this; omega
      have hml1 : m ≤ r.length + 1 := by omega
      have hml2 : r.length + 1 ≤ m := by omega
      have HR := Lib.hid hr
      clear hr hH hml q0 q1 q2
      rcases ht : (Lv.top s).is with _ | _
      · have HT := Lib.hid ht
        rcases r with _ | ⟨e2, r⟩
        · have he : Lv.pop s = s := by unfold Lv.pop; rw [if_neg h1, if_neg h2, if_neg (by rw [HR.out]; simp)]
          have HE := Lib.hid he
          clear hb h hok hst
          clear he ht
          simp at hml1
          have d3 : decide ((1 : Int) < (m : Int)) = false := by simp; omega
          go_enter Try.func21, Try.ntmps21
          go_wp2_with fail
          refine (ptop_any B1 k g base s _ m c _ _ _ _ (by exact HB.out) (by exact HS.out) HK.out hk).mono ?_
          rw [HT.out]
          rintro e w1 ⟨rfl, hb1⟩
          have hp1 := (PW.refl (B1 := B1) HB.out).below (by omega) hb1
          have hs1 := HS.out.below hb1 (Nat.le_refl _)
          clear p0 p1 p2 p3 p4 f0 f1 f2 f3 f4
          obtain ⟨p0, p1, p2, p3, p4, f0, f1, f2, f3, f4⟩ := blk5 hp1.1
          go_wp2_with fail
          (first | go_end0 | refine bodyPost_ret (results_none rfl _ _ _) rfl ?_)
          rw [HE.out]
          exact ⟨rfl, _, m, c, hp1.1, hs1, hp1.2.1, hp1.2.2⟩
        · have he : Lv.pop s = { s with stk := e2 :: r } := by
            unfold Lv.pop
            rw [if_neg h1, if_neg h2, if_pos ⟨ht, by rw [HR.out]; simp⟩, HR.out]
            rfl
          have HE := Lib.hid he
          have hcut := Stk.cut (f := [Lv.top s]) (r := e2 :: r) (m := m - 1) HH.out (by simp at hml1 hml2 ⊢; omega)
          have HCUT := Lib.hid hcut
          clear hb h hok hst
          clear he ht hcut
          simp at hml1 hml2
          have d3 : decide ((1 : Int) < (m : Int)) = true := by simp; omega
          go_enter Try.func21, Try.ntmps21
          go_wp2_with fail
          refine (ptop_any B1 k g base s _ m c _ _ _ _ (by exact HB.out) (by exact HS.out) HK.out hk).mono ?_
          rw [HT.out]
          rintro e w1 ⟨rfl, hb1⟩
          have hp1 := (PW.refl (B1 := B1) HB.out).below (by omega) hb1
          have hs1 := HS.out.below hb1 (Nat.le_refl _)
          clear p0 p1 p2 p3 p4 f0 f1 f2 f3 f4
          obtain ⟨p0, p1, p2, p3, p4, f0, f1, f2, f3, f4⟩ := blk5 hp1.1
          go_wp2_with fail
          go_region
          all_goals
            go_wp2_with fail
            (first | go_end0 | refine bodyPost_ret (results_none rfl _ _ _) rfl ?_)
            rw [HE.out]
            have h2 := (hp1.drew).set1 hg (some ⟨g', 0, none⟩) (m - 1) c
            exact ⟨rfl, _, m - 1, c, h2.1, (HCUT.out.below hb1 (Nat.le_refl _)).drew.pset hp1.drew.1 _, h2.2.1, h2.2.2⟩
      · have HT := Lib.hid ht
        have he : Lv.pop s = s := by unfold Lv.pop; rw [if_neg h1, if_neg h2, if_neg (by rw [ht]; simp)]
        have HE := Lib.hid he
        clear hb h hok hst
        clear he ht
        go_enter Try.func21, Try.ntmps21
        go_wp2_with fail
        refine (ptop_any B1 k g base s _ m c _ _ _ _ (by exact HB.out) (by exact HS.out) HK.out hk).mono ?_
        rw [HT.out]
        rintro e w1 ⟨rfl, hb1⟩
        have hp1 := (PW.refl (B1 := B1) HB.out).below (by omega) hb1
        have hs1 := HS.out.below hb1 (Nat.le_refl _)
        clear p0 p1 p2 p3 p4 f0 f1 f2 f3 f4
        obtain ⟨p0, p1, p2, p3, p4, f0, f1, f2, f3, f4⟩ := blk5 hp1.1
        go_wp2_with fail
        (first | go_end0 | refine bodyPost_ret (results_none rfl _ _ _) rfl ?_)
        rw [HE.out]
        exact ⟨rfl, _, m, c, hp1.1, hs1, hp1.2.1, hp1.2.2⟩

theorem ppopIso_not {e : Lv.Ent} {r : List Lv.Ent} (h : e.is = false) : Lv.popIso (e :: r) = Lv.popIso r := by simp [Lv.popIso, h]

/-- the last isolate is sought: entries are taken from the top -/
def ClosP (B1 g : Nat) (base : Int) (s : Lv.S) (w0 : World) (g' c : Nat) (gk : Nat) (wr : World) : Prop :=
  ∃ (e : Lv.Ent) (r : List Lv.Ent), gk = r.length ∧ PW w0 wr B1 g base (some ⟨g', 0, none⟩) (r.length + 1) c 0 0 (s.val : Int) ∧ Stk wr B1 41 (some ⟨g', 0, none⟩) (r.length + 1) c (e :: r) ∧
    Lv.popIso (e :: r) = Lv.popIso s.stk ∧ 0 < ((e :: r).filter (·.is)).length ∧ (∃ f, s.stk = f ++ e :: r)

set_option maxHeartbeats 2000000 in
theorem pclose_any (B1 k g : Nat) (base : Int) (s : Lv.S) (A : Option Addr) (m c : Nat) (w : World) (hb : PBox w g base A m c (s.iso : Int) (s.emb : Int) (s.val : Int)) (h : Stk w B1 41 A m c s.stk) (hg : B1 ≤ g) (hok : Lv.Ok k s) (hk : k ≤ 1000) :
    Calls Try.prog 25 #[.pointer (some ⟨g, 0, none⟩)] w (TurnP B1 g base w (Lv.endI s)) := by
  have htop := hok.top
  have hgl := hb.lt
  have hcap := h.cap
  have hi1 := hok.2.2.2.1
  have hi2 := hok.2.2.2.2.1
  have hi4 := hok.2.2.2.2.2
  have hi3 : s.val ≤ s.stk.length := by rw [← hok.2.1]; exact List.length_filter_le _ _
  have hst : s.stk.length = m := h.1
  have hm : m ≤ 1001 := by omega
  have HB := Lib.hid hb
  have HS := Lib.hid h
  have HK := Lib.hid hok
  obtain ⟨p0, p1, p2, p3, p4, f0, f1, f2, f3, f4⟩ := blk5 HB.out
  by_cases h1 : 0 < s.iso
  · have he : Lv.endI s = { s with iso := s.iso - 1 } := by unfold Lv.endI; rw [if_pos h1]
    have HE := Lib.hid he
    clear hb h hok hst
    clear he
    go_enter Try.func25, Try.ntmps25
    go_wp2_with fail
    (first | go_end0 | refine bodyPost_ret (results_none rfl _ _ _) rfl ?_)
    rw [HE.out]
    have h2 := (PW.refl (B1 := B1) HB.out).set2 hg ((s.iso : Int) - 1)
    exact ⟨rfl, A, m, c, by have e : (((s.iso - 1 : Nat)) : Int) = (s.iso : Int) - 1 := by omega
                            show PBox _ g base A m c (((s.iso - 1 : Nat)) : Int) (s.emb : Int) (s.val : Int)
                            rw [e]; exact h2.1, HS.out.pset HB.out _, h2.2.1, h2.2.2⟩
  · have d1 : decide ((0 : Int) < (s.iso : Int)) = false := by simp; omega
    by_cases h2 : s.val = 0
    · have he : Lv.endI s = s := by unfold Lv.endI; rw [if_neg h1, if_pos h2]
      have HE := Lib.hid he
      have d2 : ¬ 0 < s.val := by omega
      clear hb h hok hst
      clear he h2
      go_enter Try.func25, Try.ntmps25
      go_wp2_with fail
      (first | go_end0 | refine bodyPost_ret (results_none rfl _ _ _) rfl ?_)
      rw [HE.out]
      exact ⟨rfl, A, m, c, HB.out, HS.out, Keeps.refl _ _, Below.refl _ _⟩
    · have he : Lv.endI s = { s with emb := 0, stk := Lv.popIso s.stk, val := s.val - 1 } := by unfold Lv.endI; rw [if_neg h1, if_neg h2]
      have HE := Lib.hid he
      have hv1 : 1 ≤ s.val := by omega
      have hs0 : s.iso = 0 := by omega
      have d2 : decide (0 < s.val) = true := by simp; omega
      obtain ⟨r0, hr0⟩ := hok.cons
      have hpos : 0 < (s.stk.filter (·.is)).length := by rw [hok.2.1]; omega
      have hH := h
      rw [hr0] at hH
      obtain ⟨_, g', rfl, hg', hgs, _, _, _⟩ := Stk.at_ (f := []) hH
      have hml : m = r0.length + 1 := by have := hH.1; simp at this; omega
      have hp0 : PW w (w.setCell ⟨g, 3, none⟩ (.int .i64 0)) B1 g base (some ⟨g', 0, none⟩) (r0.length + 1) c 0 0 (s.val : Int) := by
        have := (PW.refl (B1 := B1) hb).set3 hg 0
        rw [hs0, hml] at this
        exact this
      have hst0 : Stk (w.setCell ⟨g, 3, none⟩ (.int .i64 0)) B1 41 (some ⟨g', 0, none⟩) (r0.length + 1) c (Lv.top s :: r0) := by
        have := hH.pset (k := 3) hb (.int .i64 0)
        rw [hml] at this
        exact this
      have HP := Lib.hid (And.intro hpos hr0)
      have hf2 := pfld2
      clear hb h hok hst
      clear he h2 hpos hr0 hH hml hs0
      go_enter Try.func25, Try.ntmps25
      go_wp2_with fail
      go_loopg [24] r0.length (fun gk _ wr => ClosP B1 g base s w g' c gk wr)
      case atStart => exact ⟨Lv.top s, r0, rfl, hp0, hst0, by rw [← HP.out.2], by rw [← HP.out.2]; exact HP.out.1, [], HP.out.2⟩
      case round =>
        clear hp0 hst0 p0 p1 p2 p3 p4 f0 f1 f2 f3 f4
        obtain ⟨e, r, hgk, hp, hst, hpo, hpos, ⟨f, hf⟩⟩ := hrel
        obtain ⟨p0, p1, p2, p3, p4, f0, f1, f2, f3, f4⟩ := blk5 hp.1
        have hszr := hp.2.2.size
        have hszr2 : B1 ≤ wr.heap.size := by have := hp.1.lt; omega
        have hrl : r.length + 1 ≤ 1001 := by
          have h1 := HK.out.2.2.2.2.2
          have : r.length + 1 ≤ s.stk.length := by rw [hf]; simp
          omega
        have hrc := hst.cap
        obtain ⟨_, g2, e1, _, _, c0, c1, c2⟩ := Stk.at_ (f := []) hst
        cases e1
        have HPW := Lib.hid hp
        have HST := Lib.hid hst
        have HPO := Lib.hid (And.intro hpo (And.intro hpos hf))
        have HGK := Lib.hid hgk
        rcases he : e.is with _ | _
        · rcases r with _ | ⟨e2, r⟩
          · simp [he] at hpos
          · have hE := Lib.hid he
            clear hp hst hpo hpos hf hgk he c0 c1 c2
            simp only [List.length_cons] at hrl hrc
            go_wp2_with fail
            refine (ptop_raw B1 g base e (e2 :: r) _ _ c _ _ _ _ (by exact HPW.out.1) (by exact HST.out) (by simp; omega)).mono ?_
            rw [hE.out]
            rintro e9 w1 ⟨rfl, hb1⟩
            have hp1 := HPW.out.below hszr2 hb1
            have hs1 := HST.out.below hb1 (Nat.le_refl _)
            have hcut := Stk.cut (f := [e]) (r := e2 :: r) (m := r.length + 1) hs1 (by simp)
            have HCUT := Lib.hid hcut
            have HP1 := Lib.hid hp1
            clear p0 p1 p2 p3 p4 f0 f1 f2 f3 f4 hs1 hcut hp1
            obtain ⟨p0, p1, p2, p3, p4, f0, f1, f2, f3, f4⟩ := blk5 HP1.out.1
            simp only [List.length_cons] at p1
            go_wp2_with fail
            go_region
            all_goals
              go_wp2_with fail
              go_roundg r.length
              case measure => have := HGK.out; simp at this; omega
              case rel =>
                obtain ⟨o1, o2, o3⟩ := HPO.out
                refine ⟨e2, r, rfl, HP1.out.drew.set1 hg (some ⟨g', 0, none⟩) (r.length + 1) c, HCUT.out.drew.pset HP1.out.drew.1 _, ?_, ?_, ⟨f ++ [e], by rw [o3]; simp⟩⟩
                · rw [← o1, ppopIso_not hE.out]
                · simpa [hE.out] using o2
        · have hE := Lib.hid he
          clear hp hst hpo hpos hf hgk he c0 c1 c2
          go_wp2_with fail
          refine (ptop_raw B1 g base e r _ _ c _ _ _ _ (by exact HPW.out.1) (by exact HST.out) (by omega)).mono ?_
          rw [hE.out]
          rintro e9 w1 ⟨rfl, hb1⟩
          have hp1 := HPW.out.below hszr2 hb1
          have hs1 := HST.out.below hb1 (Nat.le_refl _)
          have hcut := Stk.cut (f := [e]) (r := r) (m := r.length) hs1 rfl
          have HCUT := Lib.hid hcut
          have HP1 := Lib.hid hp1
          clear p0 p1 p2 p3 p4 f0 f1 f2 f3 f4 hs1 hcut hp1
          obtain ⟨p0, p1, p2, p3, p4, f0, f1, f2, f3, f4⟩ := blk5 HP1.out.1
          go_wp2_with fail
          go_region
          all_goals
            go_wp2_with fail
            (first | go_end0 | refine bodyPost_ret (results_none rfl _ _ _) rfl ?_)
            rw [HE.out]
            have h2 := (HP1.out.drew.set1 hg (some ⟨g', 0, none⟩) r.length c).set4 hg ((s.val : Int) - 1)
            have hs2 := (HCUT.out.drew.pset (k := 1) HP1.out.drew.1 (.slice (some ⟨g', 0, none⟩) r.length c)).pset (k := 4) (HP1.out.drew.set1 hg (some ⟨g', 0, none⟩) r.length c).1 (.int .i64 ((s.val : Int) - 1))
            have hpr : Lv.popIso s.stk = r := by
              obtain ⟨o1, _⟩ := HPO.out
              rw [← o1, Lv.popIso, hE.out]; rfl
            have ev : (((s.val - 1 : Nat)) : Int) = (s.val : Int) - 1 := by omega
            have ei : (s.iso : Int) = 0 := by omega
            refine ⟨rfl, some ⟨g', 0, none⟩, r.length, c, ?_, ?_, h2.2.1, h2.2.2⟩
            · show PBox _ g base _ _ c (s.iso : Int) ((0 : Nat) : Int) (((s.val - 1 : Nat)) : Int)
              rw [ev, ei]
              exact h2.1
            · show Stk _ _ _ _ _ _ (Lv.popIso s.stk)
              rw [hpr]
              exact hs2

end Go.Proofs.Ythcgdlcpgklhbaa
