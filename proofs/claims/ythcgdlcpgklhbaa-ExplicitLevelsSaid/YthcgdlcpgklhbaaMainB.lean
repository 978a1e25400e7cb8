/- The walks of the program's begin, embed, isolate: the state behind each. Conditions: the state is in order and not great. -/
import Derived.Test.YthcgdlcpgklhbaaMainA
namespace Go.Proofs.Ythcgdlcpgklhbaa
open Go.RowKit

set_option maxHeartbeats 1000000 in
theorem pbegin_any (B1 g : Nat) (base : Int) (A : Option Addr) (m c : Nat) (i e v : Int) (l : List Lv.Ent) (w : World) (hb : PBox w g base A m c i e v) (h : Stk w B1 41 A m c l) (hg : B1 ≤ g) :
    Calls Try.prog 18 #[.pointer (some ⟨g, 0, none⟩)] w (TurnP B1 g base w (Lv.begin0 base)) := by
  obtain ⟨p0, p1, p2, p3, p4, f0, f1, f2, f3, f4⟩ := blk5 hb
  have hgl := hb.lt
  have hcap := h.cap
  have h0 : Stk w B1 41 A 0 c [] := Stk.cut (f := l) (r := []) (by simpa using h) rfl
  have HB := Lib.hid hb
  have H0 := Lib.hid h0
  clear hb h h0
  go_enter Try.func18, Try.ntmps18
  go_wp2_with fail
  go_region_law ((refine step_append_ent rfl (.tmp 7) (.tmp 13) 36 rfl 41 Try.underlying36 _ Try.infoEntP rfl B1 A 0 c [] (by rfl) (by exact H0.out.drew.alloc _) ⟨w.heap.size, 0, none⟩ ⟨base, 0, false⟩ 1 (by rfl) (ent_new _ ⟨base, 0, false⟩ _ (by rfl)).1 (ent_new _ ⟨base, 0, false⟩ _ (by rfl)).2.1 (ent_new _ ⟨base, 0, false⟩ _ (by rfl)).2.2 (by omega) (by simp; omega) ?_; intro A5 c5 w5 hs5 hg5; obtain ⟨q0, q1, q2, q3, q4, r0, r1, r2, r3, r4⟩ := blk5 (((PW.refl (B1 := B1) HB.out.drew).alloc (by simp; omega) _).grown (by simp; omega) (H0.out.drew.alloc _) hg5).1))
  all_goals
    go_wp2_with fail
    go_end0
    have hp := (((PW.refl (B1 := B1) HB.out).drew).alloc (by simp; omega) (.cells #[.int .i64 base, .int .i64 0, .bool false] 41)).grown (by simp; omega) (H0.out.drew.alloc _) hg5
    have h1 := hp.set1 hg A5 1 c5
    have h2 := h1.set2 hg 0
    have h3 := h2.set3 hg 0
    have h4 := h3.set4 hg 0
    exact ⟨rfl, A5, 1, c5, h4.1, (((hs5.pset hp.1 _).pset h1.1 _).pset h2.1 _).pset h3.1 _, h4.2.1, h4.2.2⟩

set_option maxHeartbeats 4000000 in
theorem pembed_any (B1 k g : Nat) (base : Int) (s : Lv.S) (x : Int) (hx : x = 15 ∨ x = 16 ∨ x = 17 ∨ x = 18) (A : Option Addr) (m c : Nat) (w : World) (hb : PBox w g base A m c (s.iso : Int) (s.emb : Int) (s.val : Int)) (h : Stk w B1 41 A m c s.stk) (hg : B1 ≤ g) (hok : Lv.Ok k s) (hk : k ≤ 1000) :
    Calls Try.prog 22 #[.pointer (some ⟨g, 0, none⟩), .int .i64 x] w (TurnP B1 g base w (Lv.embed s x)) := by
  have htop := hok.top
  have hgl := hb.lt
  have hcap := h.cap
  have hi1 := hok.2.2.2.1
  have hi2 := hok.2.2.2.2.1
  have hi4 := hok.2.2.2.2.2
  have hi3 : s.val ≤ s.stk.length := by rw [← hok.2.1]; exact List.length_filter_le _ _
  have hst : s.stk.length = m := h.1
  have hm : m ≤ 1001 := by omega
  have HB := Lib.hid hb
  have HS := Lib.hid h
  have HK := Lib.hid hok
  rcases hx with rfl | rfl | rfl | rfl
  · rcases hr : Lv.room s (Lv.nx (Lv.top s).lv false) with _ | _
    · by_cases hi : s.iso = 0
      · have hib : ((s.iso : Int) == 0) = true := by simp [hi]
        have he : Lv.embed s 15 = { s with emb := s.emb + 1 } := by
          have : Lv.embed s 15 = if Lv.room s (Lv.nx (Lv.top s).lv false) then { s with stk := ⟨Lv.nx (Lv.top s).lv false, 0, false⟩ :: s.stk } else if s.iso = 0 then { s with emb := s.emb + 1 } else s := rfl
          rw [this, hr, if_neg (by simp), if_pos hi]
        clear hi
        have HR := Lib.hid hr
        have HE := Lib.hid he
        clear hb h hok hst
        clear hr he
        go_enter Try.func22, Try.ntmps22
        go_wp2_with fail
        refine (pnext_any B1 k g base s false false A m c _ _ (by exact HB.out) (by exact HS.out) HK.out hk HR.out).mono ?_
        rintro e w1 ⟨rfl, hb1⟩
        have hp1 := (PW.refl (B1 := B1) HB.out).below (by omega) hb1
        have hs1 := HS.out.below hb1 (Nat.le_refl _)
        have hz1 := hb1.size
        obtain ⟨p0, p1, p2, p3, p4, f0, f1, f2, f3, f4⟩ := blk5 hp1.1
        go_wp2_with fail
        go_end0
        rw [HE.out]
        have h2 := hp1.set3 hg ((s.emb : Int) + 1)
        exact ⟨rfl, A, m, c, by simpa using h2.1, hs1.pset hp1.1 _, h2.2.1, h2.2.2⟩
      · have hib : ((s.iso : Int) == 0) = false := by simp [hi]
        have he : Lv.embed s 15 = s := by
          have : Lv.embed s 15 = if Lv.room s (Lv.nx (Lv.top s).lv false) then { s with stk := ⟨Lv.nx (Lv.top s).lv false, 0, false⟩ :: s.stk } else if s.iso = 0 then { s with emb := s.emb + 1 } else s := rfl
          rw [this, hr, if_neg (by simp), if_neg hi]
        clear hi
        have HR := Lib.hid hr
        have HE := Lib.hid he
        clear hb h hok hst
        clear hr he
        go_enter Try.func22, Try.ntmps22
        go_wp2_with fail
        refine (pnext_any B1 k g base s false false A m c _ _ (by exact HB.out) (by exact HS.out) HK.out hk HR.out).mono ?_
        rintro e w1 ⟨rfl, hb1⟩
        have hp1 := (PW.refl (B1 := B1) HB.out).below (by omega) hb1
        have hs1 := HS.out.below hb1 (Nat.le_refl _)
        have hz1 := hb1.size
        obtain ⟨p0, p1, p2, p3, p4, f0, f1, f2, f3, f4⟩ := blk5 hp1.1
        go_wp2_with fail
        go_end0
        rw [HE.out]
        exact ⟨rfl, A, m, c, hp1.1, hs1, hp1.2.1, hp1.2.2⟩
    · have he : Lv.embed s 15 = { s with stk := ⟨Lv.nx (Lv.top s).lv false, 0, false⟩ :: s.stk } := by
        have : Lv.embed s 15 = if Lv.room s (Lv.nx (Lv.top s).lv false) then { s with stk := ⟨Lv.nx (Lv.top s).lv false, 0, false⟩ :: s.stk } else if s.iso = 0 then { s with emb := s.emb + 1 } else s := rfl
        rw [this, hr, if_pos rfl]
      have HR := Lib.hid hr
      have HE := Lib.hid he
      clear hb h hok hst
      clear hr he
      go_enter Try.func22, Try.ntmps22
      go_wp2_with fail
      refine (pnext_any B1 k g base s false true A m c _ _ (by exact HB.out) (by exact HS.out) HK.out hk HR.out).mono ?_
      rintro e w1 ⟨rfl, hb1⟩
      have hp1 := (PW.refl (B1 := B1) HB.out).below (by omega) hb1
      have hs1 := HS.out.below hb1 (Nat.le_refl _)
      have hz1 := hb1.size
      obtain ⟨p0, p1, p2, p3, p4, f0, f1, f2, f3, f4⟩ := blk5 hp1.1
      go_wp2_with (first | (at_builtin; refine wpList_append_ent _ rfl (.tmp 28) (.tmp 32) 36 rfl 41 Try.underlying36 _ Try.infoEntP rfl B1 A m c s.stk rfl (hs1.alloc _) ⟨w1.heap.size, 0, none⟩ (⟨Lv.nx (Lv.top s).lv false, 0, false⟩ : Lv.Ent) 1 rfl (ent_new _ (⟨Lv.nx (Lv.top s).lv false, 0, false⟩ : Lv.Ent) _ (by rfl)).1 (ent_new _ (⟨Lv.nx (Lv.top s).lv false, 0, false⟩ : Lv.Ent) _ (by rfl)).2.1 (ent_new _ (⟨Lv.nx (Lv.top s).lv false, 0, false⟩ : Lv.Ent) _ (by rfl)).2.2 (by omega) (by simp; omega) ?_; intro A5 c5 w5 hs5 hg5; have hp5 := (hp1.alloc (by omega) (.cells #[.int .i64 (⟨Lv.nx (Lv.top s).lv false, 0, false⟩ : Lv.Ent).lv, .int .i64 (⟨Lv.nx (Lv.top s).lv false, 0, false⟩ : Lv.Ent).ov, .bool (⟨Lv.nx (Lv.top s).lv false, 0, false⟩ : Lv.Ent).is] 41)).grown (by simp; omega) (hs1.alloc _) hg5; obtain ⟨q0, q1, q2, q3, q4, r0, r1, r2, r3, r4⟩ := blk5 hp5.1))
      go_end0
      rw [HE.out]
      have h2 := hp5.set1 hg A5 (m + 1) c5
      exact ⟨rfl, A5, m + 1, c5, h2.1, hs5.pset hp5.1 _, h2.2.1, h2.2.2⟩
  · rcases hr : Lv.room s (Lv.nx (Lv.top s).lv false) with _ | _
    · by_cases hi : s.iso = 0
      · have hib : ((s.iso : Int) == 0) = true := by simp [hi]
        have he : Lv.embed s 16 = { s with emb := s.emb + 1 } := by
          have : Lv.embed s 16 = if Lv.room s (Lv.nx (Lv.top s).lv false) then { s with stk := ⟨Lv.nx (Lv.top s).lv false, 1, false⟩ :: s.stk } else if s.iso = 0 then { s with emb := s.emb + 1 } else s := rfl
          rw [this, hr, if_neg (by simp), if_pos hi]
        clear hi
        have HR := Lib.hid hr
        have HE := Lib.hid he
        clear hb h hok hst
        clear hr he
        go_enter Try.func22, Try.ntmps22
        go_wp2_with fail
        refine (pnext_any B1 k g base s false false A m c _ _ (by exact HB.out) (by exact HS.out) HK.out hk HR.out).mono ?_
        rintro e w1 ⟨rfl, hb1⟩
        have hp1 := (PW.refl (B1 := B1) HB.out).below (by omega) hb1
        have hs1 := HS.out.below hb1 (Nat.le_refl _)
        have hz1 := hb1.size
        obtain ⟨p0, p1, p2, p3, p4, f0, f1, f2, f3, f4⟩ := blk5 hp1.1
        go_wp2_with fail
        go_end0
        rw [HE.out]
        have h2 := hp1.set3 hg ((s.emb : Int) + 1)
        exact ⟨rfl, A, m, c, by simpa using h2.1, hs1.pset hp1.1 _, h2.2.1, h2.2.2⟩
      · have hib : ((s.iso : Int) == 0) = false := by simp [hi]
        have he : Lv.embed s 16 = s := by
          have : Lv.embed s 16 = if Lv.room s (Lv.nx (Lv.top s).lv false) then { s with stk := ⟨Lv.nx (Lv.top s).lv false, 1, false⟩ :: s.stk } else if s.iso = 0 then { s with emb := s.emb + 1 } else s := rfl
          rw [this, hr, if_neg (by simp), if_neg hi]
        clear hi
        have HR := Lib.hid hr
        have HE := Lib.hid he
        clear hb h hok hst
        clear hr he
        go_enter Try.func22, Try.ntmps22
        go_wp2_with fail
        refine (pnext_any B1 k g base s false false A m c _ _ (by exact HB.out) (by exact HS.out) HK.out hk HR.out).mono ?_
        rintro e w1 ⟨rfl, hb1⟩
        have hp1 := (PW.refl (B1 := B1) HB.out).below (by omega) hb1
        have hs1 := HS.out.below hb1 (Nat.le_refl _)
        have hz1 := hb1.size
        obtain ⟨p0, p1, p2, p3, p4, f0, f1, f2, f3, f4⟩ := blk5 hp1.1
        go_wp2_with fail
        go_end0
        rw [HE.out]
        exact ⟨rfl, A, m, c, hp1.1, hs1, hp1.2.1, hp1.2.2⟩
    · have he : Lv.embed s 16 = { s with stk := ⟨Lv.nx (Lv.top s).lv false, 1, false⟩ :: s.stk } := by
        have : Lv.embed s 16 = if Lv.room s (Lv.nx (Lv.top s).lv false) then { s with stk := ⟨Lv.nx (Lv.top s).lv false, 1, false⟩ :: s.stk } else if s.iso = 0 then { s with emb := s.emb + 1 } else s := rfl
        rw [this, hr, if_pos rfl]
      have HR := Lib.hid hr
      have HE := Lib.hid he
      clear hb h hok hst
      clear hr he
      go_enter Try.func22, Try.ntmps22
      go_wp2_with fail
      refine (pnext_any B1 k g base s false true A m c _ _ (by exact HB.out) (by exact HS.out) HK.out hk HR.out).mono ?_
      rintro e w1 ⟨rfl, hb1⟩
      have hp1 := (PW.refl (B1 := B1) HB.out).below (by omega) hb1
      have hs1 := HS.out.below hb1 (Nat.le_refl _)
      have hz1 := hb1.size
      obtain ⟨p0, p1, p2, p3, p4, f0, f1, f2, f3, f4⟩ := blk5 hp1.1
      go_wp2_with (first | (at_builtin; refine wpList_append_ent _ rfl (.tmp 28) (.tmp 32) 36 rfl 41 Try.underlying36 _ Try.infoEntP rfl B1 A m c s.stk rfl (hs1.alloc _) ⟨w1.heap.size, 0, none⟩ (⟨Lv.nx (Lv.top s).lv false, 1, false⟩ : Lv.Ent) 1 rfl (ent_new _ (⟨Lv.nx (Lv.top s).lv false, 1, false⟩ : Lv.Ent) _ (by rfl)).1 (ent_new _ (⟨Lv.nx (Lv.top s).lv false, 1, false⟩ : Lv.Ent) _ (by rfl)).2.1 (ent_new _ (⟨Lv.nx (Lv.top s).lv false, 1, false⟩ : Lv.Ent) _ (by rfl)).2.2 (by omega) (by simp; omega) ?_; intro A5 c5 w5 hs5 hg5; have hp5 := (hp1.alloc (by omega) (.cells #[.int .i64 (⟨Lv.nx (Lv.top s).lv false, 1, false⟩ : Lv.Ent).lv, .int .i64 (⟨Lv.nx (Lv.top s).lv false, 1, false⟩ : Lv.Ent).ov, .bool (⟨Lv.nx (Lv.top s).lv false, 1, false⟩ : Lv.Ent).is] 41)).grown (by simp; omega) (hs1.alloc _) hg5; obtain ⟨q0, q1, q2, q3, q4, r0, r1, r2, r3, r4⟩ := blk5 hp5.1))
      go_end0
      rw [HE.out]
      have h2 := hp5.set1 hg A5 (m + 1) c5
      exact ⟨rfl, A5, m + 1, c5, h2.1, hs5.pset hp5.1 _, h2.2.1, h2.2.2⟩
  · rcases hr : Lv.room s (Lv.nx (Lv.top s).lv true) with _ | _
    · by_cases hi : s.iso = 0
      · have hib : ((s.iso : Int) == 0) = true := by simp [hi]
        have he : Lv.embed s 17 = { s with emb := s.emb + 1 } := by
          have : Lv.embed s 17 = if Lv.room s (Lv.nx (Lv.top s).lv true) then { s with stk := ⟨Lv.nx (Lv.top s).lv true, 0, false⟩ :: s.stk } else if s.iso = 0 then { s with emb := s.emb + 1 } else s := rfl
          rw [this, hr, if_neg (by simp), if_pos hi]
        clear hi
        have HR := Lib.hid hr
        have HE := Lib.hid he
        clear hb h hok hst
        clear hr he
        go_enter Try.func22, Try.ntmps22
        go_wp2_with fail
        refine (pnext_any B1 k g base s true false A m c _ _ (by exact HB.out) (by exact HS.out) HK.out hk HR.out).mono ?_
        rintro e w1 ⟨rfl, hb1⟩
        have hp1 := (PW.refl (B1 := B1) HB.out).below (by omega) hb1
        have hs1 := HS.out.below hb1 (Nat.le_refl _)
        have hz1 := hb1.size
        obtain ⟨p0, p1, p2, p3, p4, f0, f1, f2, f3, f4⟩ := blk5 hp1.1
        go_wp2_with fail
        go_end0
        rw [HE.out]
        have h2 := hp1.set3 hg ((s.emb : Int) + 1)
        exact ⟨rfl, A, m, c, by simpa using h2.1, hs1.pset hp1.1 _, h2.2.1, h2.2.2⟩
      · have hib : ((s.iso : Int) == 0) = false := by simp [hi]
        have he : Lv.embed s 17 = s := by
          have : Lv.embed s 17 = if Lv.room s (Lv.nx (Lv.top s).lv true) then { s with stk := ⟨Lv.nx (Lv.top s).lv true, 0, false⟩ :: s.stk } else if s.iso = 0 then { s with emb := s.emb + 1 } else s := rfl
          rw [this, hr, if_neg (by simp), if_neg hi]
        clear hi
        have HR := Lib.hid hr
        have HE := Lib.hid he
        clear hb h hok hst
        clear hr he
        go_enter Try.func22, Try.ntmps22
        go_wp2_with fail
        refine (pnext_any B1 k g base s true false A m c _ _ (by exact HB.out) (by exact HS.out) HK.out hk HR.out).mono ?_
        rintro e w1 ⟨rfl, hb1⟩
        have hp1 := (PW.refl (B1 := B1) HB.out).below (by omega) hb1
        have hs1 := HS.out.below hb1 (Nat.le_refl _)
        have hz1 := hb1.size
        obtain ⟨p0, p1, p2, p3, p4, f0, f1, f2, f3, f4⟩ := blk5 hp1.1
        go_wp2_with fail
        go_end0
        rw [HE.out]
        exact ⟨rfl, A, m, c, hp1.1, hs1, hp1.2.1, hp1.2.2⟩
    · have he : Lv.embed s 17 = { s with stk := ⟨Lv.nx (Lv.top s).lv true, 0, false⟩ :: s.stk } := by
        have : Lv.embed s 17 = if Lv.room s (Lv.nx (Lv.top s).lv true) then { s with stk := ⟨Lv.nx (Lv.top s).lv true, 0, false⟩ :: s.stk } else if s.iso = 0 then { s with emb := s.emb + 1 } else s := rfl
        rw [this, hr, if_pos rfl]
      have HR := Lib.hid hr
      have HE := Lib.hid he
      clear hb h hok hst
      clear hr he
      go_enter Try.func22, Try.ntmps22
      go_wp2_with fail
      refine (pnext_any B1 k g base s true true A m c _ _ (by exact HB.out) (by exact HS.out) HK.out hk HR.out).mono ?_
      rintro e w1 ⟨rfl, hb1⟩
      have hp1 := (PW.refl (B1 := B1) HB.out).below (by omega) hb1
      have hs1 := HS.out.below hb1 (Nat.le_refl _)
      have hz1 := hb1.size
      obtain ⟨p0, p1, p2, p3, p4, f0, f1, f2, f3, f4⟩ := blk5 hp1.1
      go_wp2_with (first | (at_builtin; refine wpList_append_ent _ rfl (.tmp 28) (.tmp 32) 36 rfl 41 Try.underlying36 _ Try.infoEntP rfl B1 A m c s.stk rfl (hs1.alloc _) ⟨w1.heap.size, 0, none⟩ (⟨Lv.nx (Lv.top s).lv true, 0, false⟩ : Lv.Ent) 1 rfl (ent_new _ (⟨Lv.nx (Lv.top s).lv true, 0, false⟩ : Lv.Ent) _ (by rfl)).1 (ent_new _ (⟨Lv.nx (Lv.top s).lv true, 0, false⟩ : Lv.Ent) _ (by rfl)).2.1 (ent_new _ (⟨Lv.nx (Lv.top s).lv true, 0, false⟩ : Lv.Ent) _ (by rfl)).2.2 (by omega) (by simp; omega) ?_; intro A5 c5 w5 hs5 hg5; have hp5 := (hp1.alloc (by omega) (.cells #[.int .i64 (⟨Lv.nx (Lv.top s).lv true, 0, false⟩ : Lv.Ent).lv, .int .i64 (⟨Lv.nx (Lv.top s).lv true, 0, false⟩ : Lv.Ent).ov, .bool (⟨Lv.nx (Lv.top s).lv true, 0, false⟩ : Lv.Ent).is] 41)).grown (by simp; omega) (hs1.alloc _) hg5; obtain ⟨q0, q1, q2, q3, q4, r0, r1, r2, r3, r4⟩ := blk5 hp5.1))
      go_end0
      rw [HE.out]
      have h2 := hp5.set1 hg A5 (m + 1) c5
      exact ⟨rfl, A5, m + 1, c5, h2.1, hs5.pset hp5.1 _, h2.2.1, h2.2.2⟩
  · rcases hr : Lv.room s (Lv.nx (Lv.top s).lv true) with _ | _
    · by_cases hi : s.iso = 0
      · have hib : ((s.iso : Int) == 0) = true := by simp [hi]
        have he : Lv.embed s 18 = { s with emb := s.emb + 1 } := by
          have : Lv.embed s 18 = if Lv.room s (Lv.nx (Lv.top s).lv true) then { s with stk := ⟨Lv.nx (Lv.top s).lv true, 2, false⟩ :: s.stk } else if s.iso = 0 then { s with emb := s.emb + 1 } else s := rfl
          rw [this, hr, if_neg (by simp), if_pos hi]
        clear hi
        have HR := Lib.hid hr
        have HE := Lib.hid he
        clear hb h hok hst
        clear hr he
        go_enter Try.func22, Try.ntmps22
        go_wp2_with fail
        refine (pnext_any B1 k g base s true false A m c _ _ (by exact HB.out) (by exact HS.out) HK.out hk HR.out).mono ?_
        rintro e w1 ⟨rfl, hb1⟩
        have hp1 := (PW.refl (B1 := B1) HB.out).below (by omega) hb1
        have hs1 := HS.out.below hb1 (Nat.le_refl _)
        have hz1 := hb1.size
        obtain ⟨p0, p1, p2, p3, p4, f0, f1, f2, f3, f4⟩ := blk5 hp1.1
        go_wp2_with fail
        go_end0
        rw [HE.out]
        have h2 := hp1.set3 hg ((s.emb : Int) + 1)
        exact ⟨rfl, A, m, c, by simpa using h2.1, hs1.pset hp1.1 _, h2.2.1, h2.2.2⟩
      · have hib : ((s.iso : Int) == 0) = false := by simp [hi]
        have he : Lv.embed s 18 = s := by
          have : Lv.embed s 18 = if Lv.room s (Lv.nx (Lv.top s).lv true) then { s with stk := ⟨Lv.nx (Lv.top s).lv true, 2, false⟩ :: s.stk } else if s.iso = 0 then { s with emb := s.emb + 1 } else s := rfl
          rw [this, hr, if_neg (by simp), if_neg hi]
        clear hi
        have HR := Lib.hid hr
        have HE := Lib.hid he
        clear hb h hok hst
        clear hr he
        go_enter Try.func22, Try.ntmps22
        go_wp2_with fail
        refine (pnext_any B1 k g base s true false A m c _ _ (by exact HB.out) (by exact HS.out) HK.out hk HR.out).mono ?_
        rintro e w1 ⟨rfl, hb1⟩
        have hp1 := (PW.refl (B1 := B1) HB.out).below (by omega) hb1
        have hs1 := HS.out.below hb1 (Nat.le_refl _)
        have hz1 := hb1.size
        obtain ⟨p0, p1, p2, p3, p4, f0, f1, f2, f3, f4⟩ := blk5 hp1.1
        go_wp2_with fail
        go_end0
        rw [HE.out]
        exact ⟨rfl, A, m, c, hp1.1, hs1, hp1.2.1, hp1.2.2⟩
    · have he : Lv.embed s 18 = { s with stk := ⟨Lv.nx (Lv.top s).lv true, 2, false⟩ :: s.stk } := by
        have : Lv.embed s 18 = if Lv.room s (Lv.nx (Lv.top s).lv true) then { s with stk := ⟨Lv.nx (Lv.top s).lv true, 2, false⟩ :: s.stk } else if s.iso = 0 then { s with emb := s.emb + 1 } else s := rfl
        rw [this, hr, if_pos rfl]
      have HR := Lib.hid hr
      have HE := Lib.hid he
      clear hb h hok hst
      clear hr he
      go_enter Try.func22, Try.ntmps22
      go_wp2_with fail
      refine (pnext_any B1 k g base s true true A m c _ _ (by exact HB.out) (by exact HS.out) HK.out hk HR.out).mono ?_
      rintro e w1 ⟨rfl, hb1⟩
      have hp1 := (PW.refl (B1 := B1) HB.out).below (by omega) hb1
      have hs1 := HS.out.below hb1 (Nat.le_refl _)
      have hz1 := hb1.size
      obtain ⟨p0, p1, p2, p3, p4, f0, f1, f2, f3, f4⟩ := blk5 hp1.1
      go_wp2_with (first | (at_builtin; refine wpList_append_ent _ rfl (.tmp 28) (.tmp 32) 36 rfl 41 Try.underlying36 _ Try.infoEntP rfl B1 A m c s.stk rfl (hs1.alloc _) ⟨w1.heap.size, 0, none⟩ (⟨Lv.nx (Lv.top s).lv true, 2, false⟩ : Lv.Ent) 1 rfl (ent_new _ (⟨Lv.nx (Lv.top s).lv true, 2, false⟩ : Lv.Ent) _ (by rfl)).1 (ent_new _ (⟨Lv.nx (Lv.top s).lv true, 2, false⟩ : Lv.Ent) _ (by rfl)).2.1 (ent_new _ (⟨Lv.nx (Lv.top s).lv true, 2, false⟩ : Lv.Ent) _ (by rfl)).2.2 (by omega) (by simp; omega) ?_; intro A5 c5 w5 hs5 hg5; have hp5 := (hp1.alloc (by omega) (.cells #[.int .i64 (⟨Lv.nx (Lv.top s).lv true, 2, false⟩ : Lv.Ent).lv, .int .i64 (⟨Lv.nx (Lv.top s).lv true, 2, false⟩ : Lv.Ent).ov, .bool (⟨Lv.nx (Lv.top s).lv true, 2, false⟩ : Lv.Ent).is] 41)).grown (by simp; omega) (hs1.alloc _) hg5; obtain ⟨q0, q1, q2, q3, q4, r0, r1, r2, r3, r4⟩ := blk5 hp5.1))
      go_end0
      rw [HE.out]
      have h2 := hp5.set1 hg A5 (m + 1) c5
      exact ⟨rfl, A5, m + 1, c5, h2.1, hs5.pset hp5.1 _, h2.2.1, h2.2.2⟩

set_option maxHeartbeats 4000000 in
theorem pisol_any (B1 k g : Nat) (base : Int) (s : Lv.S) (o : Bool) (A : Option Addr) (m c : Nat) (w : World) (hb : PBox w g base A m c (s.iso : Int) (s.emb : Int) (s.val : Int)) (h : Stk w B1 41 A m c s.stk) (hg : B1 ≤ g) (hok : Lv.Ok k s) (hk : k ≤ 1000) :
    Calls Try.prog 23 #[.pointer (some ⟨g, 0, none⟩), .bool o] w (TurnP B1 g base w (Lv.isol s o)) := by
  have htop := hok.top
  have hgl := hb.lt
  have hcap := h.cap
  have hi1 := hok.2.2.2.1
  have hi2 := hok.2.2.2.2.1
  have hi4 := hok.2.2.2.2.2
  have hi3 : s.val ≤ s.stk.length := by rw [← hok.2.1]; exact List.length_filter_le _ _
  have hst : s.stk.length = m := h.1
  have hm : m ≤ 1001 := by omega
  have HB := Lib.hid hb
  have HS := Lib.hid h
  have HK := Lib.hid hok
  rcases hr : Lv.room s (Lv.nx (Lv.top s).lv o) with _ | _
  · have he : Lv.isol s o = { s with iso := s.iso + 1 } := by
      have : Lv.isol s o = if Lv.room s (Lv.nx (Lv.top s).lv o) then { s with val := s.val + 1, stk := ⟨Lv.nx (Lv.top s).lv o, 0, true⟩ :: s.stk } else { s with iso := s.iso + 1 } := rfl
      rw [this, hr, if_neg (by simp)]
    have HR := Lib.hid hr
    have HE := Lib.hid he
    clear hb h hok hst
    clear hr he
    go_enter Try.func23, Try.ntmps23
    go_wp2_with fail
    refine (pnext_any B1 k g base s o false A m c _ _ (by exact HB.out) (by exact HS.out) HK.out hk HR.out).mono ?_
    rintro e w1 ⟨rfl, hb1⟩
    have hp1 := (PW.refl (B1 := B1) HB.out).below (by omega) hb1
    have hs1 := HS.out.below hb1 (Nat.le_refl _)
    have hz1 := hb1.size
    obtain ⟨p0, p1, p2, p3, p4, f0, f1, f2, f3, f4⟩ := blk5 hp1.1
    go_wp2_with fail
    go_end0
    rw [HE.out]
    have h2 := hp1.set2 hg ((s.iso : Int) + 1)
    exact ⟨rfl, A, m, c, by simpa using h2.1, hs1.pset hp1.1 _, h2.2.1, h2.2.2⟩
  · have he : Lv.isol s o = { s with val := s.val + 1, stk := ⟨Lv.nx (Lv.top s).lv o, 0, true⟩ :: s.stk } := by
      have : Lv.isol s o = if Lv.room s (Lv.nx (Lv.top s).lv o) then { s with val := s.val + 1, stk := ⟨Lv.nx (Lv.top s).lv o, 0, true⟩ :: s.stk } else { s with iso := s.iso + 1 } := rfl
      rw [this, hr, if_pos rfl]
    have hv : s.val ≤ 1001 := by omega
    have HR := Lib.hid hr
    have HE := Lib.hid he
    clear hb h hok hst
    clear hr he
    go_enter Try.func23, Try.ntmps23
    go_wp2_with fail
    refine (pnext_any B1 k g base s o true A m c _ _ (by exact HB.out) (by exact HS.out) HK.out hk HR.out).mono ?_
    rintro e w1 ⟨rfl, hb1⟩
    have hp1 := (PW.refl (B1 := B1) HB.out).below (by omega) hb1
    have hs1 := HS.out.below hb1 (Nat.le_refl _)
    have hz1 := hb1.size
    obtain ⟨p0, p1, p2, p3, p4, f0, f1, f2, f3, f4⟩ := blk5 hp1.1
    go_wp2_with (first | (at_builtin; refine wpList_append_ent _ rfl (.tmp 24) (.tmp 27) 36 rfl 41 Try.underlying36 _ Try.infoEntP rfl B1 A m c s.stk rfl ((hs1.pset hp1.1 _).alloc _) ⟨w1.heap.size, 0, none⟩ (⟨Lv.nx (Lv.top s).lv o, 0, true⟩ : Lv.Ent) 1 rfl (ent_new _ (⟨Lv.nx (Lv.top s).lv o, 0, true⟩ : Lv.Ent) _ (by simp [World.setCell])).1 (ent_new _ (⟨Lv.nx (Lv.top s).lv o, 0, true⟩ : Lv.Ent) _ (by simp [World.setCell])).2.1 (ent_new _ (⟨Lv.nx (Lv.top s).lv o, 0, true⟩ : Lv.Ent) _ (by simp [World.setCell])).2.2 (by omega) (by simp; omega) ?_; intro A5 c5 w5 hs5 hg5; have hp5 := ((hp1.set4 hg ((s.val : Int) + 1)).alloc (by simp [World.setCell]; omega) (.cells #[.int .i64 (⟨Lv.nx (Lv.top s).lv o, 0, true⟩ : Lv.Ent).lv, .int .i64 (⟨Lv.nx (Lv.top s).lv o, 0, true⟩ : Lv.Ent).ov, .bool (⟨Lv.nx (Lv.top s).lv o, 0, true⟩ : Lv.Ent).is] 41)).grown (by simp; omega) ((hs1.pset hp1.1 _).alloc _) hg5; obtain ⟨q0, q1, q2, q3, q4, r0, r1, r2, r3, r4⟩ := blk5 hp5.1))
    refine bodyPost_ret (results_none rfl _ _ _) rfl ?_
    rw [HE.out]
    have h2 := hp5.set1 hg A5 (m + 1) c5
    exact ⟨rfl, A5, m + 1, c5, by simpa using h2.1, hs5.pset hp5.1 _, h2.2.1, h2.2.2⟩

end Go.Proofs.Ythcgdlcpgklhbaa
