/- The walk of the reference's Levels. Conditions: at most two hundred classes; the base is 0 to 125. -/
import Derived.Test.YtojcphfonbdlpaaRefE
import Derived.Test.YtojcphfonbdlpaaRight
import Derived.Test.YtojcphfonbdlpaaLevOut
import Derived.Deep.LoopGhost
import Derived.Deep.CutBlock
import Derived.Deep.DeepCutAuto
import Derived.Deep.RegionHeld3
namespace Go.Proofs.Ytojcphfonbdlpaa
open Go.RowKit

/-- the block of the reference's state -/
def Box (W : World) (g : Nat) (A : Option Addr) (m c : Nat) (s : Lv.S) : Prop :=
  W.heap[g]? = some (.cells #[.slice A m c, .int .i64 (s.iso : Int), .int .i64 (s.emb : Int), .int .i64 (s.val : Int)] 46 (0, 0))

/-- Up to a place levels and classes are told. -/
def RL (B1 gs : Nat) (base : Int) (zs : List Int) (w1 : World) (n g : Nat) (s8 s9 s10 : Value) (wr : World) : Prop :=
  ∃ (k : Nat) (pre r : List Int) (s : Lv.S) (was : Int) (ls cs : List Int) (A8 A9 A : Option Addr) (c8 c9 m c : Nat),
    s10 = .int .i64 (k : Int) ∧ pre.length = k ∧ zs = pre ++ r ∧ g + k = n ∧ s8 = .slice A8 k c8 ∧ s9 = .slice A9 k c9 ∧
    Own wr B1 3 A8 k c8 ls ∧ Own wr B1 3 A9 k c9 cs ∧ Apart A8 A9 ∧ Box wr gs A m c s ∧ Stk wr B1 49 A m c s.stk ∧ Lv.Ok k s ∧
    ls ++ (Lv.lev base s was r).map (·.lv) = Lv.levels base zs ∧ cs ++ (Lv.lev base s was r).map (·.cl) = Lv.classes base zs ∧
    (ls = [] → was = base) ∧ (∀ l' x, ls = l' ++ [x] → was = x) ∧ Below B1 w1 wr

/-- What stands behind the switch. -/
def RM (B1 gs : Nat) (w1 : World) (A8 A9 : Option Addr) (k c8 c9 : Nat) (ls cs : List Int) (p : Lv.Out × Lv.S) (s12 s13 : Value) (W : World) : Prop :=
  ∃ (A : Option Addr) (m c : Nat), s12 = .int .i64 p.1.lv ∧ s13 = .int .i64 p.1.cl ∧ Box W gs A m c p.2 ∧ Stk W B1 49 A m c p.2.stk ∧ Own W B1 3 A8 k c8 ls ∧ Own W B1 3 A9 k c9 cs ∧ Below B1 w1 W


/-- a state is stored whole -/
theorem store4 {W : World} {g : Nat} {a0 a1 a2 a3 : Value} {t : TypeId} (h : W.heap[g]? = some (.cells #[a0, a1, a2, a3] t (0, 0))) (b0 b1 b2 b3 : Value) :
    ((((W.setCell ⟨g, 0, none⟩ b0).setCell ⟨g, 1, none⟩ b1).setCell ⟨g, 2, none⟩ b2).setCell ⟨g, 3, none⟩ b3).heap[g]? = some (.cells #[b0, b1, b2, b3] t (0, 0)) ∧
    (∀ e, e ≠ t → Keeps e W ((((W.setCell ⟨g, 0, none⟩ b0).setCell ⟨g, 1, none⟩ b1).setCell ⟨g, 2, none⟩ b2).setCell ⟨g, 3, none⟩ b3)) ∧
    ∀ (B : Nat) (w0 : World), B ≤ g → Below B w0 W → Below B w0 ((((W.setCell ⟨g, 0, none⟩ b0).setCell ⟨g, 1, none⟩ b1).setCell ⟨g, 2, none⟩ b2).setCell ⟨g, 3, none⟩ b3) := by
  have h0 := heap_setCell_same W g 0 _ t b0 h
  have h1 := heap_setCell_same _ g 1 _ t b1 h0
  have h2 := heap_setCell_same _ g 2 _ t b2 h1
  have h3 := heap_setCell_same _ g 3 _ t b3 h2
  refine ⟨h3, fun e he => ?_, fun B w0 hB hb => (((hb.setCell (p := ⟨g, 0, none⟩) hB _).setCell (p := ⟨g, 1, none⟩) hB _).setCell (p := ⟨g, 2, none⟩) hB _).setCell (p := ⟨g, 3, none⟩) hB _⟩
  exact (((Keeps.setCell (p := ⟨g, 0, none⟩) h he _).trans (Keeps.setCell (p := ⟨g, 1, none⟩) h0 he _)).trans (Keeps.setCell (p := ⟨g, 2, none⟩) h1 he _)).trans (Keeps.setCell (p := ⟨g, 3, none⟩) h2 he _)

theorem RM.stored {B1 gs k c8 c9 m c m' c' : Nat} {w1 W : World} {A8 A9 A A' : Option Addr} {ls cs : List Int} {p : Lv.Out × Lv.S} {s : Lv.S} {l cl : Int} (hbx : Box W gs A m c s) (hg : B1 ≤ gs)
    (hst : Stk W B1 49 A' m' c' p.2.stk) (h8 : Own W B1 3 A8 k c8 ls) (h9 : Own W B1 3 A9 k c9 cs) (hb : Below B1 w1 W) (hl : p.1.lv = l) (hc : p.1.cl = cl) :
    RM B1 gs w1 A8 A9 k c8 c9 ls cs p (.int .i64 l) (.int .i64 cl) ((((W.setCell ⟨gs, 0, none⟩ (.slice A' m' c')).setCell ⟨gs, 1, none⟩ (.int .i64 (p.2.iso : Int))).setCell ⟨gs, 2, none⟩ (.int .i64 (p.2.emb : Int))).setCell ⟨gs, 3, none⟩ (.int .i64 (p.2.val : Int))) := by
  obtain ⟨h1, h2, h3⟩ := store4 hbx (.slice A' m' c') (.int .i64 (p.2.iso : Int)) (.int .i64 (p.2.emb : Int)) (.int .i64 (p.2.val : Int))
  exact ⟨A', m', c', by rw [hl], by rw [hc], h1, hst.keeps (h2 _ (by decide)), h8.keeps (h2 _ (by decide)), h9.keeps (h2 _ (by decide)), h3 _ _ hg hb⟩

theorem RM.same {B1 gs k c8 c9 m c : Nat} {w1 W : World} {A8 A9 A : Option Addr} {ls cs : List Int} {p : Lv.Out × Lv.S} {l cl : Int} (hbx : Box W gs A m c p.2)
    (hst : Stk W B1 49 A m c p.2.stk) (h8 : Own W B1 3 A8 k c8 ls) (h9 : Own W B1 3 A9 k c9 cs) (hb : Below B1 w1 W) (hl : p.1.lv = l) (hc : p.1.cl = cl) :
    RM B1 gs w1 A8 A9 k c8 c9 ls cs p (.int .i64 l) (.int .i64 cl) W := ⟨A, m, c, by rw [hl], by rw [hc], hbx, hst, h8, h9, hb⟩

/-- what is kept over a call that makes memory -/
theorem Box.below {W W' : World} {g : Nat} {A : Option Addr} {m c : Nat} {s : Lv.S} (h : Box W g A m c s) (hb : Below W.heap.size W W') : Box W' g A m c s :=
  (hb.block g (Array.getElem?_eq_some_iff.1 h).1).trans h

theorem Box.drew {W : World} {g : Nat} {A : Option Addr} {m c : Nat} {s : Lv.S} (h : Box W g A m c s) : Box W.drew g A m c s := h

theorem RL.go {B1 gs n gk k c8 c9 m c : Nat} {base was x : Int} {zs pre r ls cs : List Int} {w1 W : World} {s : Lv.S} {A8 A9 A : Option Addr} (hbase : 0 ≤ base ∧ base ≤ 125) (hk : pre.length = k) (hz : zs = pre ++ x :: r) (hg : gk + k = n) (hlt : k < n)
    (h8 : Own W B1 3 A8 (k + 1) c8 (ls ++ [(Lv.step base s was x r).1.lv])) (h9 : Own W B1 3 A9 (k + 1) c9 (cs ++ [(Lv.step base s was x r).1.cl])) (hap : Apart A8 A9) (hbx : Box W gs A m c (Lv.step base s was x r).2) (hst : Stk W B1 49 A m c (Lv.step base s was x r).2.stk)
    (hok : Lv.Ok k s) (hlv : ls ++ (Lv.lev base s was (x :: r)).map (·.lv) = Lv.levels base zs) (hcl : cs ++ (Lv.lev base s was (x :: r)).map (·.cl) = Lv.classes base zs) (hb : Below B1 w1 W) :
    RL B1 gs base zs w1 n (gk - 1) (.slice A8 (k + 1) c8) (.slice A9 (k + 1) c9) (.int .i64 ((k : Int) + 1)) W := by
  refine ⟨k + 1, pre ++ [x], r, (Lv.step base s was x r).2, (Lv.step base s was x r).1.lv, _, _, A8, A9, A, c8, c9, m, c, by go_num, by simp [hk], by simp [hz], by omega, rfl, rfl, h8, h9, hap, hbx, hst, Lv.step_ok hbase hok, ?_, ?_, ?_, ?_, hb⟩
  · simpa [Lv.lev] using hlv
  · simpa [Lv.lev] using hcl
  · intro h; simp at h
  · intro l' y h
    have := congrArg List.getLast? h
    simpa using this

/-- the ways of a step -/
theorem step_rem {base was : Int} {s : Lv.S} {c : Int} {r : List Int} (h : Lv.removed c = true) : Lv.step base s was c r = (⟨was, 10⟩, if c = 19 then Lv.pop s else if c = 10 then s else Lv.embed s c) := by
  unfold Lv.step; rw [if_pos h]
theorem step_not {base was : Int} {s : Lv.S} {c : Int} {r : List Int} (h : Lv.removed c = false) : Lv.step base s was c r = (if c = 20 ∨ c = 21 then (⟨(Lv.top s).lv, Lv.own s c⟩, Lv.isol s (c == 21))
    else if c = 22 then (⟨(Lv.top s).lv, Lv.own s c⟩, Lv.isol s (Lv.rt r)) else if c = 23 then (⟨(Lv.top (Lv.endI s)).lv, Lv.own (Lv.endI s) c⟩, Lv.endI s) else if c = 11 then (⟨base, 11⟩, Lv.begin0 base) else (⟨(Lv.top s).lv, Lv.own s c⟩, s)) := by
  unfold Lv.step; rw [if_neg (by simp [h])]

set_option maxRecDepth 100000 in
set_option maxHeartbeats 4000000 in
theorem rlevels_any (B : Nat) (A : Option Addr) (n c : Nat) (zs : List Int) (base : Int) (w : World) (h : Ints w B A n c zs) (hB : B ≤ w.heap.size) (hn : n ≤ 900) (hb0 : 0 ≤ base) (hb1 : base ≤ 125) :
    Calls Try.prog 8 #[.slice A n c, .int .i64 base] w (RetTwo w n (Lv.levels base zs) (Lv.classes base zs)) := by
  have hcap := h.cap
  have hl := h.length
  have HI := Lib.hid h
  go_enter Try.func8, Try.ntmps8
  go_wp2_with fail
  refine (rmatch_any B A n c zs _ h hB (by omega)).mono ?_
  rintro e w1 ⟨Am, cm, rfl, hom, hbm⟩
  have hm := hom.ints
  have HM := Lib.hid hm
  have hcm := hm.cap
  clear h hom hm
  go_wp2_with fail
  refine (rbegin_any w1.heap.size base _ (Nat.le_refl _)).mono ?_
  rintro e w2 ⟨v, rfl, ⟨A2, m2, c2, rfl, hs2⟩, hb2⟩
  have hgs := hb2.size
  have hbx : Box (w2.alloc (.cells #[.slice A2 m2 c2, .int .i64 ((Lv.begin0 base).iso : Int), .int .i64 ((Lv.begin0 base).emb : Int), .int .i64 ((Lv.begin0 base).val : Int)] 46)) w2.heap.size A2 m2 c2 (Lv.begin0 base) := heap_alloc_new w2 _
  have hb3 := hb2.alloc hgs (.cells #[.slice A2 m2 c2, .int .i64 ((Lv.begin0 base).iso : Int), .int .i64 ((Lv.begin0 base).emb : Int), .int .i64 ((Lv.begin0 base).val : Int)] 46)
  have hs3 := hs2.alloc (.cells #[.slice A2 m2 c2, .int .i64 ((Lv.begin0 base).iso : Int), .int .i64 ((Lv.begin0 base).emb : Int), .int .i64 ((Lv.begin0 base).val : Int)] 46)
  go_wp2_with fail
  go_loopg [8, 9, 10] n (fun g s8 s9 s10 wr => RL w1.heap.size w2.heap.size base zs w1 n g s8 s9 s10 wr)
  case atStart => exact ⟨0, [], zs, Lv.begin0 base, base, [], [], none, none, A2, 0, 0, m2, c2, rfl, rfl, rfl, rfl, rfl, rfl, Own.nil_ _ _ _, Own.nil_ _ _ _, Apart.none_left _, hbx, hs3, Lv.begin0_ok base ⟨hb0, hb1⟩, rfl, rfl, fun _ => rfl, fun l' x hx => by simp at hx, hb3⟩
  case round =>
    clear hbx hs3 hb3 hs2
    obtain ⟨k, pre, r, s, was, ls, cs, A8, A9, A0, c8, c9, m, c0, rfl, hk, hz, hg, rfl, rfl, h8, h9, hap, hbox, hstk, hok, hlv, hcl, hw0, hw1, hbel⟩ := hrel
    have HBOX := Lib.hid hbox
    have HSTK := Lib.hid hstk
    have HOK := Lib.hid hok
    have HLV := Lib.hid (And.intro hlv hcl)
    have HWAS := Lib.hid (And.intro hw0 hw1)
    have HZ := Lib.hid hz
    have HK := Lib.hid hk
    have HG := Lib.hid hg
    have H8 := Lib.hid h8
    have H9 := Lib.hid h9
    rcases r with _ | ⟨x, r⟩
    · have hge : n ≤ k := by rw [hz] at hl; simp at hl; omega
      have hle : k ≤ n := by omega
      have HN : Hid (k = n) := Lib.hid (by omega)
      clear hlv hcl hw0 hw1 hz hk hg h8 h9 hbox hstk hok hl
      go_wp2
      go_ret2
      obtain rfl : k = n := HN.out
      have e8 := HLV.out.1
      have e9 := HLV.out.2
      simp only [Lv.lev, List.map_nil, List.append_nil] at e8 e9
      rw [← e8, ← e9]
      exact ⟨A8, c8, A9, c9, rfl, H8.out.more hbm.size, H9.out.more hbm.size, hbm.trans (hbel.mono hbm.size)⟩
    · have hlt : k < n := by rw [hz] at hl; simp at hl; omega
      obtain ⟨b, of, rfl, hbb, hcx⟩ := (HI.out.below ((hbm.trans (hbel.mono hbm.size)).mono hB)).get (k := k) (x := x) (by rw [hz, ← hk]; simp)
      obtain ⟨p0, p1, p2, p3, f0, f1, f2, f3⟩ := blk4 hbox
      have hf0 := rfld0
      have hgl : w2.heap.size < wr.heap.size := World.block_lt_of_cell? wr _ p0
      have hmk : m ≤ 1000000 := by have := hstk.1; have := hok.2.2.2.2.2; omega
      clear hlv hcl hw0 hw1 hz hk hg h8 h9 hbox hstk hok hl
      go_wp2_with fail
      go_region_held3 (fun w' => w'.cell? ⟨w2.heap.size, 0, none⟩ = some (.slice A0 m c0) ∧ w'.cell? ⟨w2.heap.size, 1, none⟩ = some (.int .i64 (s.iso : Int)) ∧ w'.cell? ⟨w2.heap.size, 2, none⟩ = some (.int .i64 (s.emb : Int)) ∧ w'.cell? ⟨w2.heap.size, 3, none⟩ = some (.int .i64 (s.val : Int)))
        (first | go_keep | exact ⟨(hbl.cell (p := ⟨w2.heap.size, 0, none⟩) hgl).trans p0, (hbl.cell (p := ⟨w2.heap.size, 1, none⟩) hgl).trans p1, (hbl.cell (p := ⟨w2.heap.size, 2, none⟩) hgl).trans p2, (hbl.cell (p := ⟨w2.heap.size, 3, none⟩) hgl).trans p3⟩ | exact ⟨(hbo.cell (p := ⟨w2.heap.size, 0, none⟩) hgl3).trans ((hbl.cell (p := ⟨w2.heap.size, 0, none⟩) hgl).trans p0), (hbo.cell (p := ⟨w2.heap.size, 1, none⟩) hgl3).trans ((hbl.cell (p := ⟨w2.heap.size, 1, none⟩) hgl).trans p1), (hbo.cell (p := ⟨w2.heap.size, 2, none⟩) hgl3).trans ((hbl.cell (p := ⟨w2.heap.size, 2, none⟩) hgl).trans p2), (hbo.cell (p := ⟨w2.heap.size, 3, none⟩) hgl3).trans ((hbl.cell (p := ⟨w2.heap.size, 3, none⟩) hgl).trans p3)⟩)
        (first
          | (go_at_call 20; refine (rlast_any w1.heap.size k s A0 m c0 _ _ _ _ (by exact HSTK.out) HOK.out hmk).mono ?_; rintro e w3 ⟨rfl, hbl⟩; have hgl3 : w2.heap.size < w3.heap.size := Nat.lt_of_lt_of_le hgl hbl.size)
          | (go_at_call 21; refine (rown_any w1.heap.size k s A0 m c0 _ _ _ x _ (by exact HSTK.out.drew.below hbl (Nat.le_refl _)) HOK.out hmk).mono ?_; rintro e w4 ⟨rfl, hbo⟩))
      have hB4 : Below wr.heap.size wr w4 := ((((Below.refl wr.heap.size wr).drew).trans hbl).trans (hbo.mono hbl.size))
      have HBX4 := Lib.hid (HBOX.out.below hB4)
      have HST4 := Lib.hid (HSTK.out.below hB4 (Nat.le_refl _))
      have H84 := Lib.hid (H8.out.below hB4 (Nat.le_refl _))
      have H94 := Lib.hid (H9.out.below hB4 (Nat.le_refl _))
      have hbel4 := hbel.trans (hB4.mono hbel.size)
      have hgl4 : w2.heap.size < w4.heap.size := Nat.lt_of_lt_of_le hgl hB4.size
      have HIW := Lib.hid ((HI.out.below ((hbm.trans (hbel4.mono hbm.size)).mono hB)).drew)
      have HMW := Lib.hid ((HM.out.below hbel4).drew)
      have hBW : B ≤ w4.drew.heap.size := Nat.le_trans hB (Nat.le_trans hbm.size hbel4.size)
      clear hbo hbl p0 p1 p2 p3 f0 f1 f2 f3 hB4 hbel hgl3 hgl hcx
      go_upto_block 2 with (fail)
      go_cut [12, 13] (fun s12 s13 W => RM w1.heap.size w2.heap.size w1 A8 A9 k c8 c9 ls cs (Lv.step base s was x r) s12 s13 W)
      case first =>
        obtain ⟨p0, p1, p2, p3, f0, f1, f2, f3⟩ := blk4 (HBX4.out)
        rcases hr : Lv.removed x with _ | _
        · have HR := Lib.hid hr
          clear hr
          by_cases h20 : x = 20
          · subst h20
            have e : Lv.step base s was 20 r = (⟨(Lv.top s).lv, Lv.own s 20⟩, Lv.isol s false) := by rw [step_not HR.out]; rfl
            have HE := Lib.hid e
            clear e
            go_wp2_with (first
              | (go_at_call 11; refine (rremoved_any 20 false HR.out _).mono ?_; rintro e w9 ⟨rfl, rfl⟩)
              | (go_at_call 24; refine (risol_any w1.heap.size k s false A0 m c0 _ (by exact HST4.out) hbel4.size HOK.out (by omega)).mono ?_; rintro e w5 ⟨v5, rfl, ⟨A5, m5, c5, rfl, hst5⟩, hb5⟩; obtain ⟨p0, p1, p2, p3, f0, f1, f2, f3⟩ := blk4 (HBX4.out.below hb5)))
            go_meet
            rw [HE.out]
            exact RM.stored (HBX4.out.below hb5) hgs hst5 (H84.out.below hb5 (Nat.le_refl _)) (H94.out.below hb5 (Nat.le_refl _)) (hbel4.trans (hb5.mono hbel4.size)) rfl rfl
          · have e20 : (x == 20) = false := by simpa using h20
            by_cases h21 : x = 21
            · subst h21
              have e : Lv.step base s was 21 r = (⟨(Lv.top s).lv, Lv.own s 21⟩, Lv.isol s true) := by rw [step_not HR.out]; rfl
              have HE := Lib.hid e
              clear e
              go_wp2_with (first
                | (go_at_call 11; refine (rremoved_any 21 false HR.out _).mono ?_; rintro e w9 ⟨rfl, rfl⟩)
                | (go_at_call 24; refine (risol_any w1.heap.size k s true A0 m c0 _ (by exact HST4.out) hbel4.size HOK.out (by omega)).mono ?_; rintro e w5 ⟨v5, rfl, ⟨A5, m5, c5, rfl, hst5⟩, hb5⟩; obtain ⟨p0, p1, p2, p3, f0, f1, f2, f3⟩ := blk4 (HBX4.out.below hb5)))
              go_meet
              rw [HE.out]
              exact RM.stored (HBX4.out.below hb5) hgs hst5 (H84.out.below hb5 (Nat.le_refl _)) (H94.out.below hb5 (Nat.le_refl _)) (hbel4.trans (hb5.mono hbel4.size)) rfl rfl
            · have e21 : (x == 21) = false := by simpa using h21
              by_cases h22 : x = 22
              · subst h22
                have e : Lv.step base s was 22 r = (⟨(Lv.top s).lv, Lv.own s 22⟩, Lv.isol s (Lv.rt r)) := by rw [step_not HR.out]; rfl
                have HE := Lib.hid e
                clear e
                go_wp2_with (first
                  | (go_at_call 11; refine (rremoved_any 22 false HR.out _).mono ?_; rintro e w9 ⟨rfl, rfl⟩))
                go_region_with (first
                  | (go_at_call 25; refine (rright_any B w1.heap.size _ Am n c n cm k zs pre r 22 _ (by exact HIW.out) (by exact HMW.out) (by exact hBW) (by omega) HZ.out HK.out rfl).mono ?_; rintro e w6 ⟨rfl, hb6⟩; obtain ⟨p0, p1, p2, p3, f0, f1, f2, f3⟩ := blk4 (HBX4.out.drew.below hb6))
                  | (go_at_call 24; refine (risol_any w1.heap.size k s (Lv.rt r) A0 m c0 _ (by exact HST4.out.drew.below hb6 (Nat.le_refl _)) (by exact Nat.le_trans hbel4.size hb6.size) HOK.out (by omega)).mono ?_; rintro e w5 ⟨v5, rfl, ⟨A5, m5, c5, rfl, hst5⟩, hb5⟩; obtain ⟨p0, p1, p2, p3, f0, f1, f2, f3⟩ := blk4 ((HBX4.out.drew.below hb6).below hb5)))
                all_goals
                  go_wp2_with fail
                  go_meet
                  rw [HE.out]
                  have hB6 := ((Below.refl w4.heap.size w4).drew).trans hb6
                  exact RM.stored ((HBX4.out.below hB6).below hb5) hgs hst5 ((H84.out.below hB6 (Nat.le_refl _)).below hb5 (Nat.le_refl _)) ((H94.out.below hB6 (Nat.le_refl _)).below hb5 (Nat.le_refl _)) ((hbel4.trans (hB6.mono hbel4.size)).trans (hb5.mono (Nat.le_trans hbel4.size hB6.size))) rfl rfl
              · have e22 : (x == 22) = false := by simpa using h22
                by_cases h23 : x = 23
                · subst h23
                  have e : Lv.step base s was 23 r = (⟨(Lv.top (Lv.endI s)).lv, Lv.own (Lv.endI s) 23⟩, (Lv.endI s)) := by rw [step_not HR.out]; rfl
                  have HE := Lib.hid e
                  clear e
                  go_wp2_with (first
                    | (go_at_call 11; refine (rremoved_any 23 false HR.out _).mono ?_; rintro e w9 ⟨rfl, rfl⟩)
                    | (go_at_call 26; refine (rend_any w1.heap.size k s A0 m c0 _ (by exact HST4.out) HOK.out (by omega)).mono ?_; rintro e w5 ⟨v5, rfl, ⟨A5, m5, c5, rfl, hst5⟩, hb5⟩; obtain ⟨p0, p1, p2, p3, f0, f1, f2, f3⟩ := blk4 (HBX4.out.below hb5)))
                  have key : ∃ W7, ((((w5.setCell ⟨w2.heap.size, 0, none⟩ (.slice A5 m5 c5)).setCell ⟨w2.heap.size, 1, none⟩ (.int .i64 ((Lv.endI s).iso : Int))).setCell ⟨w2.heap.size, 2, none⟩ (.int .i64 ((Lv.endI s).emb : Int))).setCell ⟨w2.heap.size, 3, none⟩ (.int .i64 ((Lv.endI s).val : Int))) = W7 ∧
                      Box W7 w2.heap.size A5 m5 c5 (Lv.endI s) ∧ Stk W7 w1.heap.size 49 A5 m5 c5 (Lv.endI s).stk ∧ Own W7 w1.heap.size 3 A8 k c8 ls ∧ Own W7 w1.heap.size 3 A9 k c9 cs ∧ Below w1.heap.size w1 W7 := by
                    have hs4 := store4 (HBX4.out.below hb5) (.slice A5 m5 c5) (.int .i64 ((Lv.endI s).iso : Int)) (.int .i64 ((Lv.endI s).emb : Int)) (.int .i64 ((Lv.endI s).val : Int))
                    exact ⟨_, rfl, hs4.1, hst5.keeps (hs4.2.1 _ (by decide)), (H84.out.below hb5 (Nat.le_refl _)).keeps (hs4.2.1 _ (by decide)), (H94.out.below hb5 (Nat.le_refl _)).keeps (hs4.2.1 _ (by decide)), hs4.2.2 w1.heap.size w1 hgs (hbel4.trans (hb5.mono hbel4.size))⟩
                  obtain ⟨W7, hW7, hbx7, hst7, h87, h97, hbel7⟩ := key
                  rw [hW7]
                  clear hW7
                  have hok7 : Lv.Ok k (Lv.endI s) := Lv.endI_ok HOK.out
                  have hm5 : m5 ≤ 1000000 := by have := hst5.1; have := hok7.2.2.2.2.2; omega
                  have HBX7 := Lib.hid hbx7
                  have HST7 := Lib.hid hst7
                  have H87 := Lib.hid h87
                  have H97 := Lib.hid h97
                  have HOK7 := Lib.hid hok7
                  clear p0 p1 p2 p3 f0 f1 f2 f3 hbx7 hst7 h87 h97 hok7 hst5
                  obtain ⟨p0, p1, p2, p3, f0, f1, f2, f3⟩ := blk4 HBX7.out
                  have hgl7 : w2.heap.size < W7.heap.size := World.block_lt_of_cell? W7 _ p0
                  have hf0 := rfld0
                  go_region_held3 (fun w' => w'.cell? ⟨w2.heap.size, 0, none⟩ = some (.slice A5 m5 c5) ∧ w'.cell? ⟨w2.heap.size, 1, none⟩ = some (.int .i64 ((Lv.endI s).iso : Int)) ∧ w'.cell? ⟨w2.heap.size, 2, none⟩ = some (.int .i64 ((Lv.endI s).emb : Int)) ∧ w'.cell? ⟨w2.heap.size, 3, none⟩ = some (.int .i64 ((Lv.endI s).val : Int)))
                    (first | exact ⟨p0, p1, p2, p3⟩ | go_keep | exact ⟨(hbl.cell (p := ⟨w2.heap.size, 0, none⟩) hgl7).trans p0, (hbl.cell (p := ⟨w2.heap.size, 1, none⟩) hgl7).trans p1, (hbl.cell (p := ⟨w2.heap.size, 2, none⟩) hgl7).trans p2, (hbl.cell (p := ⟨w2.heap.size, 3, none⟩) hgl7).trans p3⟩ | exact ⟨(hbo.cell (p := ⟨w2.heap.size, 0, none⟩) hgl8).trans ((hbl.cell (p := ⟨w2.heap.size, 0, none⟩) hgl7).trans p0), (hbo.cell (p := ⟨w2.heap.size, 1, none⟩) hgl8).trans ((hbl.cell (p := ⟨w2.heap.size, 1, none⟩) hgl7).trans p1), (hbo.cell (p := ⟨w2.heap.size, 2, none⟩) hgl8).trans ((hbl.cell (p := ⟨w2.heap.size, 2, none⟩) hgl7).trans p2), (hbo.cell (p := ⟨w2.heap.size, 3, none⟩) hgl8).trans ((hbl.cell (p := ⟨w2.heap.size, 3, none⟩) hgl7).trans p3)⟩)
                    (first
                      | (go_at_call 20; refine (rlast_any w1.heap.size k (Lv.endI s) A5 m5 c5 _ _ _ _ (by exact HST7.out) HOK7.out hm5).mono ?_; rintro e w8 ⟨rfl, hbl⟩; have hgl8 : w2.heap.size < w8.heap.size := Nat.lt_of_lt_of_le hgl7 hbl.size)
                      | (go_at_call 21; refine (rown_any w1.heap.size k (Lv.endI s) A5 m5 c5 _ _ _ 23 _ (by exact HST7.out.drew.below hbl (Nat.le_refl _)) HOK7.out hm5).mono ?_; rintro e w9 ⟨rfl, hbo⟩))
                  go_wp2_with fail
                  go_meet
                  rw [HE.out]
                  have hB9 := (((Below.refl _ _).drew).trans hbl).trans (hbo.mono hbl.size)
                  exact RM.same (HBX7.out.below hB9) (HST7.out.below hB9 (Nat.le_refl _)) (H87.out.below hB9 (Nat.le_refl _)) (H97.out.below hB9 (Nat.le_refl _)) (hbel7.trans (hB9.mono hbel7.size)) rfl rfl
                · have e23 : (x == 23) = false := by simpa using h23
                  by_cases h11 : x = 11
                  · subst h11
                    have e : Lv.step base s was 11 r = (⟨base, 11⟩, Lv.begin0 base) := by rw [step_not HR.out]; rfl
                    have HE := Lib.hid e
                    clear e
                    go_wp2_with (first
                      | (go_at_call 11; refine (rremoved_any 11 false HR.out _).mono ?_; rintro e w9 ⟨rfl, rfl⟩)
                      | (go_at_call 19; refine (rbegin_any w1.heap.size base _ hbel4.size).mono ?_; rintro e w5 ⟨v5, rfl, ⟨A5, m5, c5, rfl, hst5⟩, hb5⟩; obtain ⟨p0, p1, p2, p3, f0, f1, f2, f3⟩ := blk4 (HBX4.out.below hb5)))
                    go_meet
                    rw [HE.out]
                    exact RM.stored (HBX4.out.below hb5) hgs hst5 (H84.out.below hb5 (Nat.le_refl _)) (H94.out.below hb5 (Nat.le_refl _)) (hbel4.trans (hb5.mono hbel4.size)) rfl rfl
                  · have e11 : (x == 11) = false := by simpa using h11
                    have e : Lv.step base s was x r = (⟨(Lv.top s).lv, Lv.own s x⟩, s) := by rw [step_not HR.out, if_neg (by omega), if_neg h22, if_neg h23, if_neg h11]
                    have HE := Lib.hid e
                    clear e
                    go_wp2_with (first
                      | (go_at_call 11; refine (rremoved_any x false HR.out _).mono ?_; rintro e w9 ⟨rfl, rfl⟩))
                    go_meet
                    rw [HE.out]
                    exact RM.same HBX4.out HST4.out H84.out H94.out hbel4 rfl rfl
        · have HR := Lib.hid hr
          clear hr
          by_cases hk0 : k = 0
          · have hk00 : k ≤ 0 := by omega
            have d0 : decide (0 < k) = false := by simp; omega
            have hwb : was = base := HWAS.out.1 (List.eq_nil_of_length_eq_zero (by rw [H84.out.length]; exact hk0))
            have HWB := Lib.hid hwb
            clear hk0 hwb
            by_cases h19 : x = 19
            · subst h19
              have e : Lv.step base s was 19 r = (⟨was, 10⟩, Lv.pop s) := by rw [step_rem HR.out]; rfl
              have HE := Lib.hid e
              clear e
              go_wp2_with (first
                | (go_at_call 11; refine (rremoved_any 19 true HR.out _).mono ?_; rintro e w9 ⟨rfl, rfl⟩)
                | (go_at_call 22; refine (rpop_any w1.heap.size k s A0 m c0 _ (by exact HST4.out) HOK.out (by omega)).mono ?_; rintro e w5 ⟨v5, rfl, ⟨A5, m5, c5, rfl, hst5⟩, hb5⟩; obtain ⟨p0, p1, p2, p3, f0, f1, f2, f3⟩ := blk4 (HBX4.out.below hb5)))
              go_meet
              rw [HE.out]
              exact RM.stored (HBX4.out.below hb5) hgs hst5 (H84.out.below hb5 (Nat.le_refl _)) (H94.out.below hb5 (Nat.le_refl _)) (hbel4.trans (hb5.mono hbel4.size)) HWB.out rfl
            · have e19 : (x == 19) = false := by simpa using h19
              by_cases h10 : x = 10
              · subst h10
                have e : Lv.step base s was 10 r = (⟨was, 10⟩, s) := by rw [step_rem HR.out]; rfl
                have HE := Lib.hid e
                clear e
                go_wp2_with (first
                  | (go_at_call 11; refine (rremoved_any 10 true HR.out _).mono ?_; rintro e w9 ⟨rfl, rfl⟩))
                go_meet
                rw [HE.out]
                exact RM.same HBX4.out HST4.out H84.out H94.out hbel4 HWB.out rfl
              · have e10 : (x != 10) = true := by simpa using h10
                have hx4 : x = 15 ∨ x = 16 ∨ x = 17 ∨ x = 18 := by
                  have h := HR.out
                  simp [Lv.removed] at h
                  omega
                have HX4 := Lib.hid hx4
                have e : Lv.step base s was x r = (⟨was, 10⟩, Lv.embed s x) := by rw [step_rem HR.out, if_neg h19, if_neg h10]
                have HE := Lib.hid e
                clear e hx4
                go_wp2_with (first
                  | (go_at_call 11; refine (rremoved_any x true HR.out _).mono ?_; rintro e w9 ⟨rfl, rfl⟩)
                  | (go_at_call 23; refine (rembed_any w1.heap.size k s x HX4.out A0 m c0 _ (by exact HST4.out) hbel4.size HOK.out (by omega)).mono ?_; rintro e w5 ⟨v5, rfl, ⟨A5, m5, c5, rfl, hst5⟩, hb5⟩; obtain ⟨p0, p1, p2, p3, f0, f1, f2, f3⟩ := blk4 (HBX4.out.below hb5)))
                go_meet
                rw [HE.out]
                exact RM.stored (HBX4.out.below hb5) hgs hst5 (H84.out.below hb5 (Nat.le_refl _)) (H94.out.below hb5 (Nat.le_refl _)) (hbel4.trans (hb5.mono hbel4.size)) HWB.out rfl
          · rcases List.eq_nil_or_concat ls with hls | ⟨l', y, hls⟩
            · exact absurd (by rw [← H84.out.length, hls]; rfl) hk0
            · rw [List.concat_eq_append] at hls
              have hwy := HWAS.out.2 l' y hls
              subst hwy
              have h8' := H84.out
              rw [hls] at h8'
              obtain ⟨hlk, g8, e8, _, _, hc8, _⟩ := h8'.last
              have hl8 : l'.length = k - 1 := by omega
              rw [hl8] at hc8
              subst e8
              have d0 : (0 : Int) < (k : Int) := by omega
              have HLS := Lib.hid hls
              clear hk0 hls h8' hlk hl8
              by_cases h19 : x = 19
              · subst h19
                have e : Lv.step base s was 19 r = (⟨was, 10⟩, Lv.pop s) := by rw [step_rem HR.out]; rfl
                have HE := Lib.hid e
                clear e
                go_wp2_with (first
                  | (go_at_call 11; refine (rremoved_any 19 true HR.out _).mono ?_; rintro e w9 ⟨rfl, rfl⟩)
                  | (go_at_call 22; refine (rpop_any w1.heap.size k s A0 m c0 _ (by exact HST4.out) HOK.out (by omega)).mono ?_; rintro e w5 ⟨v5, rfl, ⟨A5, m5, c5, rfl, hst5⟩, hb5⟩; obtain ⟨p0, p1, p2, p3, f0, f1, f2, f3⟩ := blk4 (HBX4.out.below hb5)))
                go_meet
                rw [HE.out]
                exact RM.stored (HBX4.out.below hb5) hgs hst5 (H84.out.below hb5 (Nat.le_refl _)) (H94.out.below hb5 (Nat.le_refl _)) (hbel4.trans (hb5.mono hbel4.size)) rfl rfl
              · have e19 : (x == 19) = false := by simpa using h19
                by_cases h10 : x = 10
                · subst h10
                  have e : Lv.step base s was 10 r = (⟨was, 10⟩, s) := by rw [step_rem HR.out]; rfl
                  have HE := Lib.hid e
                  clear e
                  go_wp2_with (first
                    | (go_at_call 11; refine (rremoved_any 10 true HR.out _).mono ?_; rintro e w9 ⟨rfl, rfl⟩))
                  go_meet
                  rw [HE.out]
                  exact RM.same HBX4.out HST4.out H84.out H94.out hbel4 rfl rfl
                · have e10 : (x != 10) = true := by simpa using h10
                  have hx4 : x = 15 ∨ x = 16 ∨ x = 17 ∨ x = 18 := by
                    have h := HR.out
                    simp [Lv.removed] at h
                    omega
                  have HX4 := Lib.hid hx4
                  have e : Lv.step base s was x r = (⟨was, 10⟩, Lv.embed s x) := by rw [step_rem HR.out, if_neg h19, if_neg h10]
                  have HE := Lib.hid e
                  clear e hx4
                  go_wp2_with (first
                    | (go_at_call 11; refine (rremoved_any x true HR.out _).mono ?_; rintro e w9 ⟨rfl, rfl⟩)
                    | (go_at_call 23; refine (rembed_any w1.heap.size k s x HX4.out A0 m c0 _ (by exact HST4.out) hbel4.size HOK.out (by omega)).mono ?_; rintro e w5 ⟨v5, rfl, ⟨A5, m5, c5, rfl, hst5⟩, hb5⟩; obtain ⟨p0, p1, p2, p3, f0, f1, f2, f3⟩ := blk4 (HBX4.out.below hb5)))
                  go_meet
                  rw [HE.out]
                  exact RM.stored (HBX4.out.below hb5) hgs hst5 (H84.out.below hb5 (Nat.le_refl _)) (H94.out.below hb5 (Nat.le_refl _)) (hbel4.trans (hb5.mono hbel4.size)) rfl rfl
      case rest =>
        obtain ⟨A6, m6, c6, rfl, rfl, hbx6, hst6, h86, h96, hb6⟩ := hcut
        have hs6 := hb6.size
        have HBX6 := Lib.hid hbx6
        have HST6 := Lib.hid hst6
        clear hbx6 hst6
        go_wp2_with (first
          | (at_builtin; refine wpList_append_ints _ rfl (.tmp 92) (.tmp 94) 22 rfl w1.heap.size 3 Try.underlying22 Try.infoInt A8 k c8 ls rfl (h86.alloc _) (wc.heap.size + 1) (some ⟨wc.heap.size, 0, none⟩) 1 1 [(Lv.step base s was x r).1.lv] rfl (Ints.lit_at _ [(Lv.step base s was x r).1.lv] _ _ (by omega) rfl rfl (by simp)) (by omega) (by simp; omega) ?_; intro A8n c8n w7 h87 hg7 ho7; have h97 := (h96.alloc (.cells #[.int .i64 (Lv.step base s was x r).1.lv] 3)).kept hg7 hap.symm; have hap7 := (hap.symm.grow (h96.alloc (.cells #[.int .i64 (Lv.step base s was x r).1.lv] 3)) ho7).symm; have hb7 := below_append (hb6.alloc hs6 (.cells #[.int .i64 (Lv.step base s was x r).1.lv] 3)) (by simp; omega) hg7 (h86.alloc _) (Nat.le_refl _); have hs7 := hb7.size)
          | (at_builtin; refine wpList_append_ints _ rfl (.tmp 96) (.tmp 98) 22 rfl w1.heap.size 3 Try.underlying22 Try.infoInt A9 k c9 cs rfl (h97.alloc _) (w7.heap.size + 1) (some ⟨w7.heap.size, 0, none⟩) 1 1 [(Lv.step base s was x r).1.cl] rfl (Ints.lit_at _ [(Lv.step base s was x r).1.cl] _ _ (by omega) rfl rfl (by simp)) (by omega) (by simp; omega) ?_; intro A9n c9n w8 h98 hg8 ho8))
        have hk7 : Keeps 46 wc w8 := (((Keeps.alloc wc _ 46).trans (Keeps.grown (h86.alloc _) hg7 (by decide))).trans (Keeps.alloc w7 _ 46)).trans (Keeps.grown (h97.alloc _) hg8 (by decide))
        have hk8 : Keeps 49 wc w8 := (((Keeps.alloc wc _ 49).trans (Keeps.grown (h86.alloc _) hg7 (by decide))).trans (Keeps.alloc w7 _ 49)).trans (Keeps.grown (h97.alloc _) hg8 (by decide))
        have h88 := (h87.alloc (.cells #[.int .i64 (Lv.step base s was x r).1.cl] 3)).kept hg8 hap7
        have hap8 := hap7.grow (h87.alloc (.cells #[.int .i64 (Lv.step base s was x r).1.cl] 3)) ho8
        have hb8 := below_append (hb7.alloc hs7 (.cells #[.int .i64 (Lv.step base s was x r).1.cl] 3)) (by simp; omega) hg8 (h97.alloc _) (Nat.le_refl _)
        go_roundg (gk - 1)
        case measure => have := HG.out; omega
        case rel => exact RL.go ⟨hb0, hb1⟩ HK.out HZ.out HG.out hlt h88 h98 hap8 (hk7 _ _ _ HBX6.out) (HST6.out.keeps hk8) HOK.out HLV.out.1 HLV.out.2 hb8

end Go.Proofs.Ytojcphfonbdlpaa
