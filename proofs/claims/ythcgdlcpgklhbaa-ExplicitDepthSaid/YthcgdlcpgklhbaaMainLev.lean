/- The walk of the program's Levels. Conditions: at most nine hundred classes; the base is 0 to 125. -/
import Derived.Test.YthcgdlcpgklhbaaMainC
import Derived.Test.YthcgdlcpgklhbaaLevOut
import Derived.Deep.CutBlock
import Derived.Deep.DeepCutAuto
import Derived.Deep.RegionHeld3
import Derived.Deep.OwnRows
namespace Go.Proofs.Ythcgdlcpgklhbaa
open Go.RowKit

theorem Own.made (w : World) (n : Nat) (base g : Nat) (e : TypeId) (hn : n ≤ 1000000) (hb : base ≤ w.heap.size) (hg : g = w.heap.size) : Own (w.alloc (.cells (madeCells #[.int .i64 0] n) e)) base e (some ⟨g, 0, none⟩) n n (List.replicate n 0) := by
  subst hg
  have h := madeCells_int n
  rw [Nat.mul_one] at h
  exact Own.lit w (List.replicate n 0) _ e hb (by unfold maxLen; omega) (by simp) h

/-- all that the loop keeps in memory -/
def Ctx (w : World) (B1 bx g8 g9 n cm : Nat) (Am : Option Addr) (ms : List Int) (base : Int) (s : Lv.S) (A : Option Addr) (m c : Nat) (l8 l9 : List Int) (W : World) : Prop :=
  PBox W bx base A m c (s.iso : Int) (s.emb : Int) (s.val : Int) ∧ Stk W B1 41 A m c s.stk ∧ Own W B1 3 Am n cm ms ∧ Own W B1 3 (some ⟨g8, 0, none⟩) n n l8 ∧ Own W B1 3 (some ⟨g9, 0, none⟩) n n l9 ∧ Below B1 w W
/-- three rows, apart -/
def Three (g8 g9 : Nat) (Am : Option Addr) : Prop := g8 ≠ g9 ∧ ∀ a, Am = some a → a.block ≠ g8 ∧ a.block ≠ g9

section
variable {w W W' : World} {B1 bx g8 g9 n cm m c k : Nat} {Am A : Option Addr} {ms l8 l9 ls z : List Int} {base a : Int} {s s' : Lv.S}
theorem Ctx.below (h : Ctx w B1 bx g8 g9 n cm Am ms base s A m c l8 l9 W) (hb : Below W.heap.size W W') : Ctx w B1 bx g8 g9 n cm Am ms base s A m c l8 l9 W' := by
  obtain ⟨h1, h2, h3, h4, h5, h6⟩ := h
  have hB : B1 ≤ W.heap.size := Nat.le_trans (Own.block h4 g8 (by simp [Value.ownBlock])).1 (Nat.le_of_lt (Own.block h4 g8 (by simp [Value.ownBlock])).2)
  exact ⟨h1.below hb, h2.below hb (Nat.le_refl _), h3.below hb (Nat.le_refl _), h4.below hb (Nat.le_refl _), h5.below hb (Nat.le_refl _), h6.trans (hb.mono hB)⟩
theorem Ctx.put8 (h : Ctx w B1 bx g8 g9 n cm Am ms base s A m c (ls ++ a :: z) l9 W) (hn : Three g8 g9 Am) (hk : ls.length = k) (v : Int) : Ctx w B1 bx g8 g9 n cm Am ms base s A m c (ls ++ v :: z) l9 (W.setCell ⟨g8, k, none⟩ (.int .i64 v)) := by
  obtain ⟨h1, h2, h3, h4, h5, h6⟩ := h
  exact ⟨(Keeps.stored h4 (by decide) _) _ _ _ h1, h2.keeps (Keeps.stored h4 (by decide) _), h3.far (p := ⟨g8, k, none⟩) (fun a ha => (hn.2 a ha).1) _, h4.put hk v,
    h5.far (p := ⟨g8, k, none⟩) (fun a ha => by cases ha; exact fun e => hn.1 e.symm) _, h6.setCell (p := ⟨g8, k, none⟩) (Own.block h4 g8 (by simp [Value.ownBlock])).1 _⟩
theorem Ctx.put9 (h : Ctx w B1 bx g8 g9 n cm Am ms base s A m c l8 (ls ++ a :: z) W) (hn : Three g8 g9 Am) (hk : ls.length = k) (v : Int) : Ctx w B1 bx g8 g9 n cm Am ms base s A m c l8 (ls ++ v :: z) (W.setCell ⟨g9, k, none⟩ (.int .i64 v)) := by
  obtain ⟨h1, h2, h3, h4, h5, h6⟩ := h
  exact ⟨(Keeps.stored h5 (by decide) _) _ _ _ h1, h2.keeps (Keeps.stored h5 (by decide) _), h3.far (p := ⟨g9, k, none⟩) (fun a ha => (hn.2 a ha).2) _,
    h4.far (p := ⟨g9, k, none⟩) (fun a ha => by cases ha; exact fun e => hn.1 e) _, h5.put hk v, h6.setCell (p := ⟨g9, k, none⟩) (Own.block h5 g9 (by simp [Value.ownBlock])).1 _⟩
theorem Ctx.turn (h : Ctx w B1 bx g8 g9 n cm Am ms base s A m c l8 l9 W) {e : Ending} (ht : TurnP B1 bx base W s' e W') : e = .returned (.tuple #[]) ∧ ∃ A' m' c', Ctx w B1 bx g8 g9 n cm Am ms base s' A' m' c' l8 l9 W' := by
  obtain ⟨h1, h2, h3, h4, h5, h6⟩ := h
  obtain ⟨he, A', m', c', hp, hs, hk, hb⟩ := ht
  exact ⟨he, A', m', c', hp, hs, h3.keeps hk, h4.keeps hk, h5.keeps hk, h6.trans hb⟩
/-- the two cells of a place -/
theorem Ctx.cells {ls' z' : List Int} {a' : Int} (h : Ctx w B1 bx g8 g9 n cm Am ms base s A m c (ls ++ a :: z) (ls' ++ a' :: z') W) (hk : ls.length = k) (hk' : ls'.length = k) :
    k < n ∧ W.cell? ⟨g8, k, none⟩ = some (.int .i64 a) ∧ W.frozen? ⟨g8, k, none⟩ = false ∧ W.cell? ⟨g9, k, none⟩ = some (.int .i64 a') ∧ W.frozen? ⟨g9, k, none⟩ = false := by
  obtain ⟨h1, h2, h3, h4, h5, h6⟩ := h
  obtain ⟨hn, g, e1, _, _, c1, f1⟩ := h4.mid hk
  obtain ⟨_, g', e2, _, _, c2, f2⟩ := h5.mid hk'
  cases e1; cases e2
  exact ⟨hn, c1, f1, c2, f2⟩
end

/-- Up to a place levels and classes are told. -/
def PL (w : World) (B1 bx g8 g9 n cm : Nat) (Am : Option Addr) (base : Int) (zs : List Int) (gk : Nat) (s28 s10 : Value) (wr : World) : Prop :=
  ∃ (k : Nat) (pre r : List Int) (s : Lv.S) (was : Int) (ls cs : List Int) (A : Option Addr) (m c : Nat),
    s28 = .int .i64 (k : Int) ∧ s10 = .int .i64 was ∧ pre.length = k ∧ zs = pre ++ r ∧ gk + k = n ∧ ls.length = k ∧ cs.length = k ∧
    Ctx w B1 bx g8 g9 n cm Am (Bd.mt zs) base s A m c (ls ++ List.replicate r.length 0) (cs ++ List.replicate r.length 0) wr ∧ Lv.Ok k s ∧
    ls ++ (Lv.lev base s was r).map (·.lv) = Lv.levels base zs ∧ cs ++ (Lv.lev base s was r).map (·.cl) = Lv.classes base zs
/-- What stands behind the switch. -/
def PM (w : World) (B1 bx g8 g9 n cm : Nat) (Am : Option Addr) (ms : List Int) (base : Int) (ls cs z : List Int) (p : Lv.Out × Lv.S) (s13 : Value) (W : World) : Prop :=
  ∃ (f cl : Int) (A : Option Addr) (m c : Nat), s13 = .int .i64 f ∧ Ctx w B1 bx g8 g9 n cm Am ms base p.2 A m c (ls ++ p.1.lv :: z) (cs ++ cl :: z) W ∧ (if f ≠ 0 then f else cl) = p.1.cl

theorem PL.go {w W : World} {B1 bx g8 g9 n cm gk k m c : Nat} {Am A : Option Addr} {base was x : Int} {zs pre r ls cs : List Int} {s : Lv.S} (hbase : 0 ≤ base ∧ base ≤ 125) (hk : pre.length = k) (hz : zs = pre ++ x :: r) (hg : gk + k = n) (hlt : k < n) (h8 : ls.length = k) (h9 : cs.length = k)
    (hc : Ctx w B1 bx g8 g9 n cm Am (Bd.mt zs) base (Lv.step base s was x r).2 A m c (ls ++ (Lv.step base s was x r).1.lv :: List.replicate r.length 0) (cs ++ (Lv.step base s was x r).1.cl :: List.replicate r.length 0) W) (hok : Lv.Ok k s)
    (hlv : ls ++ (Lv.lev base s was (x :: r)).map (·.lv) = Lv.levels base zs) (hcl : cs ++ (Lv.lev base s was (x :: r)).map (·.cl) = Lv.classes base zs) :
    PL w B1 bx g8 g9 n cm Am base zs (gk - 1) (.int .i64 ((k : Int) + 1)) (.int .i64 (Lv.step base s was x r).1.lv) W :=
  ⟨k + 1, pre ++ [x], r, (Lv.step base s was x r).2, (Lv.step base s was x r).1.lv, ls ++ [(Lv.step base s was x r).1.lv], cs ++ [(Lv.step base s was x r).1.cl], A, m, c, by go_num, rfl, by simp [hk], by simp [hz], by omega, by simp [h8], by simp [h9],
    by simpa using hc, Lv.step_ok hbase hok, by simpa [Lv.lev] using hlv, by simpa [Lv.lev] using hcl⟩

theorem pstep_rem {base was : Int} {s : Lv.S} {c : Int} {r : List Int} (h : Lv.removed c = true) : Lv.step base s was c r = (⟨was, 10⟩, if c = 19 then Lv.pop s else if c = 10 then s else Lv.embed s c) := by
  unfold Lv.step; rw [if_pos h]
theorem pstep_not {base was : Int} {s : Lv.S} {c : Int} {r : List Int} (h : Lv.removed c = false) : Lv.step base s was c r = (if c = 20 ∨ c = 21 then (⟨(Lv.top s).lv, Lv.own s c⟩, Lv.isol s (c == 21))
    else if c = 22 then (⟨(Lv.top s).lv, Lv.own s c⟩, Lv.isol s (Lv.rt r)) else if c = 23 then (⟨(Lv.top (Lv.endI s)).lv, Lv.own (Lv.endI s) c⟩, Lv.endI s) else if c = 11 then (⟨base, 11⟩, Lv.begin0 base) else (⟨(Lv.top s).lv, Lv.own s c⟩, s)) := by
  unfold Lv.step; rw [if_neg (by simp [h])]

/-- two rows of noughts -/
def Two (w3 : World) (n : Nat) (s8 s9 : Value) (W : World) : Prop :=
  ∃ g8 g9 : Nat, s8 = .slice (some ⟨g8, 0, none⟩) n n ∧ s9 = .slice (some ⟨g9, 0, none⟩) n n ∧ Own W w3.heap.size 3 (some ⟨g8, 0, none⟩) n n (List.replicate n 0) ∧
    Own W w3.heap.size 3 (some ⟨g9, 0, none⟩) n n (List.replicate n 0) ∧ g8 ≠ g9 ∧ Below w3.heap.size w3 W

set_option maxRecDepth 100000 in
set_option maxHeartbeats 4000000 in
theorem levels_any (B : Nat) (A : Option Addr) (n c : Nat) (zs : List Int) (base : Int) (w : World) (h : Ints w B A n c zs) (hB : B ≤ w.heap.size) (hn : n ≤ 900) (hb0 : 0 ≤ base) (hb1 : base ≤ 125) :
    Calls Try.prog 9 #[.slice A n c, .int .i64 base] w (RetTwo w n (Lv.levels base zs) (Lv.classes base zs)) := by
  have hcap := h.cap
  have hl := h.length
  have HI := Lib.hid h
  clear h
  go_enter Try.func9, Try.ntmps9
  go_wp2_with fail
  have hbw : Below w.heap.size w (w.alloc (.cells #[.int .i64 base, .slice none 0 0, .int .i64 0, .int .i64 0, .int .i64 0] 38)) := (Below.refl _ _).alloc (Nat.le_refl _) _
  refine (pbegin_any w.heap.size w.heap.size base none 0 0 0 0 0 [] _ (by exact heap_alloc_new w _) (by exact Stk.nil_ _ _ _) (Nat.le_refl _)).mono ?_
  rintro e w2 ⟨rfl, A2, m2, c2, hp2, hs2, hk2, hb2⟩
  have hbel2 := hbw.trans hb2
  go_wp2_with fail
  refine (match_any B A n c zs _ (by exact HI.out.below (hbel2.mono hB)) (by exact Nat.le_trans hB hbel2.size) (by omega)).mono ?_
  rintro e w3 ⟨Am, cm, rfl, hm3, hb3⟩
  have hbel3 := hbel2.trans (hb3.mono hbel2.size)
  have hp3 := hp2.below hb3
  have hs3 := hs2.below hb3 (Nat.le_refl _)
  have hmb := hm3.block
  have hcm := hm3.cap
  have HP3 := Lib.hid hp3
  have HS3 := Lib.hid hs3
  have HM3 := Lib.hid hm3
  have HMB := Lib.hid hmb
  clear hp2 hs2 hk2 hb2 hp3 hs3 hm3 hmb hbw
  have hmk := run_make_row' (P := Try.prog) 22 3 (.int .i64 0) 8 Try.underlying22 Try.infoInt rfl .i64 .i64 n (by omega) (by omega)
  go_upto_region 4 with fail
  go_cut [8, 9] (fun s8 s9 W => Two w3 n s8 s9 W)
  case first =>
    go_region
    all_goals
      go_wp2_with fail
      go_meet
    · exact ⟨w3.heap.size, w3.heap.size + 1, rfl, rfl, (Own.made _ n _ _ _ (by omega) (by simp) (by simp)).alloc _, Own.made _ n _ _ _ (by omega) (by simp) (by simp), by omega, by repeat (first | exact Below.refl _ _ | refine Below.drew ?_ | refine Below.alloc ?_ (by simp <;> omega) _)⟩
    · exact ⟨w3.heap.size + 1, w3.heap.size, rfl, rfl, Own.made _ n _ _ _ (by omega) (by simp) (by simp), (Own.made _ n _ _ _ (by omega) (by simp) (by simp)).alloc _, by omega, by repeat (first | exact Below.refl _ _ | refine Below.drew ?_ | refine Below.alloc ?_ (by simp <;> omega) _)⟩
  case rest =>
    clear hmk
    obtain ⟨g8, g9, rfl, rfl, h8, h9, hne, hb4⟩ := hcut
    have hth : Three g8 g9 Am := ⟨hne, fun a ha => by
      subst ha
      have h1 := HMB.out a.block (by simp [Value.ownBlock])
      have h2 := (Own.block h8 g8 (by simp [Value.ownBlock])).1
      have h3 := (Own.block h9 g9 (by simp [Value.ownBlock])).1
      exact ⟨by omega, by omega⟩⟩
    have HTH := Lib.hid hth
    have hs3s := hbel3.size
    have hc0 : Ctx w w.heap.size w.heap.size g8 g9 n cm Am (Bd.mt zs) base (Lv.begin0 base) A2 m2 c2 (List.replicate n 0) (List.replicate n 0) wc :=
      ⟨HP3.out.below hb4, HS3.out.below hb4 (Nat.le_refl _), (HM3.out.below hb4 (Nat.le_refl _)).more hbel2.size, h8.more hs3s, h9.more hs3s, hbel3.trans (hb4.mono hs3s)⟩
    have HC0 := Lib.hid hc0
    have HL := Lib.hid hl
    have hb0' := hb0
    have hb1' := hb1
    clear hth h8 h9 hc0 hb3 hb4 hbel2 hbel3
    go_wp2_with fail
    go_loopg [28, 10] n (fun gk s28 s10 wr => PL w w.heap.size w.heap.size g8 g9 n cm Am base zs gk s28 s10 wr)
    case atStart => exact ⟨0, [], zs, Lv.begin0 base, base, [], [], A2, m2, c2, rfl, rfl, rfl, rfl, rfl, rfl, rfl, by rw [HL.out]; exact HC0.out, Lv.begin0_ok base ⟨hb0, hb1⟩, rfl, rfl⟩
    case round =>
      obtain ⟨k, pre, r, s, was, ls, cs, A4, m4, c4, rfl, rfl, hk, hz, hg, hl8, hl9, hctx, hok, hlv, hcl⟩ := hrel
      have HCX := Lib.hid hctx
      have HOK := Lib.hid hok
      have HLV := Lib.hid (And.intro hlv hcl)
      have HZ := Lib.hid hz
      have HK := Lib.hid hk
      have HG := Lib.hid hg
      have HL8 := Lib.hid hl8
      have HL9 := Lib.hid hl9
      rcases r with _ | ⟨x, r⟩
      · have hge : n ≤ k := by rw [hz] at hl; simp at hl; omega
        have hle : k ≤ n := by omega
        clear hlv hcl hz hk hg hl8 hl9 hctx hok hl
        go_wp2
        go_ret2
        have e8 := HLV.out.1
        have e9 := HLV.out.2
        simp only [Lv.lev, List.map_nil, List.append_nil] at e8 e9
        obtain ⟨_, _, _, h8, h9, hb⟩ := HCX.out
        simp only [List.length_nil, List.replicate_zero, List.append_nil] at h8 h9
        rw [← e8, ← e9]
        exact ⟨_, n, _, n, rfl, h8, h9, hb⟩
      · have hlt : k < n := by rw [hz] at hl; simp at hl; omega
        have hk1 : k ≤ 1000 := by omega
        obtain ⟨b, of, rfl, hbb, hcx⟩ := (HI.out.below (hctx.2.2.2.2.2.mono hB)).get (k := k) (x := x) (by rw [hz, ← hk]; simp)
        have hf0 := pfld0
        have hf1 := pfld1
        clear hlv hcl hz hk hg hl8 hl9 hctx hok hl
        go_wp2_with fail
        refine (ptop_any w.heap.size k w.heap.size base s _ _ _ _ _ _ _ (by exact (HCX.out).1) (by exact (HCX.out).2.1) HOK.out hk1).mono ?_
        rintro e w4 ⟨rfl, hb4⟩
        have hc4 := HCX.out.below hb4
        simp only [List.length_cons, List.replicate_succ] at hc4
        have HC4 := Lib.hid hc4
        clear hcx hc4
        obtain ⟨_, c8, f8, c9, f9⟩ := (HC4.out).cells HL8.out HL9.out
        have hgg : g8 ≠ g9 := HTH.out.1
        go_wp2_with fail
        have hc5 := (HC4.out.put8 HTH.out HL8.out (Lv.top s).lv).put9 HTH.out HL9.out x
        have HC5 := Lib.hid hc5
        clear hc5 c8 f8 c9 f9
        refine (ptop_any w.heap.size k w.heap.size base s _ _ _ _ _ _ _ (by exact (HC5.out).1) (by exact (HC5.out).2.1) HOK.out hk1).mono ?_
        rintro e w6 ⟨rfl, hb6⟩
        have HC6 := Lib.hid (HC5.out.below hb6)
        have hc6b := HC6.out.2.2.2.2.2
        have HIW := Lib.hid (HI.out.below (hc6b.mono hB))
        have hBW : B ≤ w6.heap.size := Nat.le_trans hB hc6b.size
        clear hb4 hb6 hc6b
        obtain ⟨_, c8, f8, c9, f9⟩ := (HC6.out).cells HL8.out HL9.out
        obtain ⟨A6, hA6⟩ : ∃ a, a = A4 := ⟨_, rfl⟩
        obtain ⟨m6, hm6⟩ : ∃ a, a = m4 := ⟨_, rfl⟩
        obtain ⟨c6, hc6⟩ : ∃ a, a = c4 := ⟨_, rfl⟩
        subst hA6 hm6 hc6
        go_upto_block 2 with (fail)
        go_cut [13] (fun s13 W => PM w w.heap.size w.heap.size g8 g9 n cm Am (Bd.mt zs) base ls cs (List.replicate r.length 0) (Lv.step base s was x r) s13 W)
        case first =>
          rcases hr : Lv.removed x with _ | _
          · have HR := Lib.hid hr
            clear hr
            by_cases h20 : x = 20
            · subst h20
              have e : Lv.step base s was 20 r = (⟨(Lv.top s).lv, Lv.own s 20⟩, Lv.isol s (Lv.rtc 20 r)) := by rw [pstep_not HR.out]; rfl
              have HE := Lib.hid e
              clear e
              go_wp2_with (first
                | (go_at_call 12; refine (removed_any 20 false HR.out _).mono ?_; rintro e w9 ⟨rfl, rfl⟩)
                | (go_at_call 24; refine (right_any B w6.heap.size _ Am n c n cm k zs pre r 20 _ (by exact HIW.out) (by exact HC6.out.2.2.1.ints) (by exact hBW) (by omega) HZ.out HK.out rfl).mono ?_; rintro e w8 ⟨rfl, hbr⟩)
                | (go_at_call 23; refine (pisol_any w.heap.size k w.heap.size base s (Lv.rtc 20 r) _ _ _ _ (by exact (HC6.out.below hbr).1) (by exact (HC6.out.below hbr).2.1) (Nat.le_refl _) HOK.out hk1).mono ?_; intro e w7 ht; obtain ⟨rfl, A7, m7, c7, hc7⟩ := (HC6.out.below hbr).turn ht; clear ht))
              go_meet
              rw [HE.out]
              exact ⟨(Lv.top s).ov, 20, A7, m7, c7, rfl, hc7, rfl⟩
            · have e20 : (x == 20) = false := by simpa using h20
              by_cases h21 : x = 21
              · subst h21
                have e : Lv.step base s was 21 r = (⟨(Lv.top s).lv, Lv.own s 21⟩, Lv.isol s (Lv.rtc 21 r)) := by rw [pstep_not HR.out]; rfl
                have HE := Lib.hid e
                clear e
                go_wp2_with (first
                  | (go_at_call 12; refine (removed_any 21 false HR.out _).mono ?_; rintro e w9 ⟨rfl, rfl⟩)
                  | (go_at_call 24; refine (right_any B w6.heap.size _ Am n c n cm k zs pre r 21 _ (by exact HIW.out) (by exact HC6.out.2.2.1.ints) (by exact hBW) (by omega) HZ.out HK.out rfl).mono ?_; rintro e w8 ⟨rfl, hbr⟩)
                  | (go_at_call 23; refine (pisol_any w.heap.size k w.heap.size base s (Lv.rtc 21 r) _ _ _ _ (by exact (HC6.out.below hbr).1) (by exact (HC6.out.below hbr).2.1) (Nat.le_refl _) HOK.out hk1).mono ?_; intro e w7 ht; obtain ⟨rfl, A7, m7, c7, hc7⟩ := (HC6.out.below hbr).turn ht; clear ht))
                go_meet
                rw [HE.out]
                exact ⟨(Lv.top s).ov, 21, A7, m7, c7, rfl, hc7, rfl⟩
              · have e21 : (x == 21) = false := by simpa using h21
                by_cases h22 : x = 22
                · subst h22
                  have e : Lv.step base s was 22 r = (⟨(Lv.top s).lv, Lv.own s 22⟩, Lv.isol s (Lv.rtc 22 r)) := by rw [pstep_not HR.out]; rfl
                  have HE := Lib.hid e
                  clear e
                  go_wp2_with (first
                    | (go_at_call 12; refine (removed_any 22 false HR.out _).mono ?_; rintro e w9 ⟨rfl, rfl⟩)
                    | (go_at_call 24; refine (right_any B w6.heap.size _ Am n c n cm k zs pre r 22 _ (by exact HIW.out) (by exact HC6.out.2.2.1.ints) (by exact hBW) (by omega) HZ.out HK.out rfl).mono ?_; rintro e w8 ⟨rfl, hbr⟩)
                    | (go_at_call 23; refine (pisol_any w.heap.size k w.heap.size base s (Lv.rtc 22 r) _ _ _ _ (by exact (HC6.out.below hbr).1) (by exact (HC6.out.below hbr).2.1) (Nat.le_refl _) HOK.out hk1).mono ?_; intro e w7 ht; obtain ⟨rfl, A7, m7, c7, hc7⟩ := (HC6.out.below hbr).turn ht; clear ht))
                  go_meet
                  rw [HE.out]
                  exact ⟨(Lv.top s).ov, 22, A7, m7, c7, rfl, hc7, rfl⟩
                · have e22 : (x == 22) = false := by simpa using h22
                  by_cases h23 : x = 23
                  · subst h23
                    have e : Lv.step base s was 23 r = (⟨(Lv.top (Lv.endI s)).lv, Lv.own (Lv.endI s) 23⟩, Lv.endI s) := by rw [pstep_not HR.out]; rfl
                    have HE := Lib.hid e
                    clear e
                    have hok7 : Lv.Ok k (Lv.endI s) := Lv.endI_ok HOK.out
                    have HOK7 := Lib.hid hok7
                    clear hok7
                    go_wp2_with (first
                      | (go_at_call 12; refine (removed_any 23 false HR.out _).mono ?_; rintro e w9 ⟨rfl, rfl⟩)
                      | (go_at_call 25; refine (pclose_any w.heap.size k w.heap.size base s _ _ _ _ (by exact HC6.out.1) (by exact HC6.out.2.1) (Nat.le_refl _) HOK.out hk1).mono ?_; intro e w7 ht; obtain ⟨rfl, A7, m7, c7, hc7⟩ := (HC6.out).turn ht; clear ht))
                    refine (ptop_any w.heap.size k w.heap.size base (Lv.endI s) _ _ _ _ _ _ _ (by exact (hc7).1) (by exact (hc7).2.1) HOK7.out hk1).mono ?_
                    rintro e w8 ⟨rfl, hb8⟩
                    have HC8 := Lib.hid (hc7.below hb8)
                    clear c8 f8 c9 f9 hc7
                    obtain ⟨_, c8, f8, c9, f9⟩ := (HC8.out).cells HL8.out HL9.out
                    go_wp2_with fail
                    refine (ptop_any w.heap.size k w.heap.size base (Lv.endI s) _ _ _ _ _ _ _ (by exact (HC8.out).1) (by exact (HC8.out).2.1) HOK7.out hk1).mono ?_
                    rintro e w9 ⟨rfl, hb9⟩
                    have HC9 := Lib.hid (HC8.out.below hb9)
                    clear c8 f8 c9 f9
                    obtain ⟨_, c8, f8, c9, f9⟩ := (HC9.out).cells HL8.out HL9.out
                    go_wp2_with fail
                    go_meet
                    rw [HE.out]
                    exact ⟨(Lv.top (Lv.endI s)).ov, 23, A7, m7, c7, rfl, HC9.out.put8 HTH.out HL8.out _, rfl⟩
                  · have e23 : (x == 23) = false := by simpa using h23
                    by_cases h11 : x = 11
                    · subst h11
                      have e : Lv.step base s was 11 r = (⟨base, 11⟩, Lv.begin0 base) := by rw [pstep_not HR.out]; rfl
                      have HE := Lib.hid e
                      clear e
                      go_wp2_with (first
                        | (go_at_call 12; refine (removed_any 11 false HR.out _).mono ?_; rintro e w9 ⟨rfl, rfl⟩)
                        | (go_at_call 18; refine (pbegin_any w.heap.size w.heap.size base _ _ _ _ _ _ s.stk _ (by exact (HC6.out.put8 HTH.out HL8.out base).1) (by exact (HC6.out.put8 HTH.out HL8.out base).2.1) (Nat.le_refl _)).mono ?_; intro e w7 ht; obtain ⟨rfl, A7, m7, c7, hc7⟩ := (HC6.out.put8 HTH.out HL8.out base).turn ht; clear ht))
                      go_meet
                      rw [HE.out]
                      exact ⟨0, 11, A7, m7, c7, rfl, hc7, rfl⟩
                    · have e11 : (x == 11) = false := by simpa using h11
                      have e : Lv.step base s was x r = (⟨(Lv.top s).lv, Lv.own s x⟩, s) := by rw [pstep_not HR.out, if_neg (by omega), if_neg h22, if_neg h23, if_neg h11]
                      have HE := Lib.hid e
                      clear e
                      go_wp2_with (first | (go_at_call 12; refine (removed_any x false HR.out _).mono ?_; rintro e w9 ⟨rfl, rfl⟩))
                      go_meet
                      rw [HE.out]
                      exact ⟨(Lv.top s).ov, x, A6, m6, c6, rfl, HC6.out, rfl⟩
          · have HR := Lib.hid hr
            clear hr
            by_cases h19 : x = 19
            · subst h19
              have e : Lv.step base s was 19 r = (⟨was, 10⟩, Lv.pop s) := by rw [pstep_rem HR.out]; rfl
              have HE := Lib.hid e
              clear e
              go_wp2_with (first
                | (go_at_call 12; refine (removed_any 19 true HR.out _).mono ?_; rintro e w9 ⟨rfl, rfl⟩)
                | (go_at_call 21; refine (ppop_any w.heap.size k w.heap.size base s _ _ _ _ (by exact ((HC6.out.put8 HTH.out HL8.out was).put9 HTH.out HL9.out 10).1) (by exact ((HC6.out.put8 HTH.out HL8.out was).put9 HTH.out HL9.out 10).2.1) (Nat.le_refl _) HOK.out hk1).mono ?_; intro e w7 ht; obtain ⟨rfl, A7, m7, c7, hc7⟩ := ((HC6.out.put8 HTH.out HL8.out was).put9 HTH.out HL9.out 10).turn ht; clear ht))
              go_meet
              rw [HE.out]
              exact ⟨0, 10, A7, m7, c7, rfl, hc7, rfl⟩
            · have e19 : (x == 19) = false := by simpa using h19
              by_cases h10 : x = 10
              · subst h10
                have e : Lv.step base s was 10 r = (⟨was, 10⟩, s) := by rw [pstep_rem HR.out]; rfl
                have HE := Lib.hid e
                clear e
                go_wp2_with (first | (go_at_call 12; refine (removed_any 10 true HR.out _).mono ?_; rintro e w9 ⟨rfl, rfl⟩))
                go_meet
                rw [HE.out]
                exact ⟨0, 10, A6, m6, c6, rfl, (HC6.out.put8 HTH.out HL8.out was).put9 HTH.out HL9.out 10, rfl⟩
              · have e10 : (x == 10) = false := by simpa using h10
                have hx4 : x = 15 ∨ x = 16 ∨ x = 17 ∨ x = 18 := by
                  have h := HR.out
                  simp [Lv.removed] at h
                  omega
                have HX4 := Lib.hid hx4
                have e : Lv.step base s was x r = (⟨was, 10⟩, Lv.embed s x) := by rw [pstep_rem HR.out, if_neg h19, if_neg h10]
                have HE := Lib.hid e
                clear e hx4
                go_wp2_with (first
                  | (go_at_call 12; refine (removed_any x true HR.out _).mono ?_; rintro e w9 ⟨rfl, rfl⟩)
                  | (go_at_call 22; refine (pembed_any w.heap.size k w.heap.size base s x HX4.out _ _ _ _ (by exact ((HC6.out.put8 HTH.out HL8.out was).put9 HTH.out HL9.out 10).1) (by exact ((HC6.out.put8 HTH.out HL8.out was).put9 HTH.out HL9.out 10).2.1) (Nat.le_refl _) HOK.out hk1).mono ?_; intro e w7 ht; obtain ⟨rfl, A7, m7, c7, hc7⟩ := ((HC6.out.put8 HTH.out HL8.out was).put9 HTH.out HL9.out 10).turn ht; clear ht))
                go_meet
                rw [HE.out]
                exact ⟨0, 10, A7, m7, c7, rfl, hc7, rfl⟩
        case rest =>
          obtain ⟨f, cl, A9, m9, c9', rfl, hc9, hcl9⟩ := hcut
          have HC9 := Lib.hid hc9
          clear hc9 c8 f8 c9 f9
          obtain ⟨_, c8, f8, c9, f9⟩ := (HC9.out).cells HL8.out HL9.out
          by_cases hf : f = 0
          · have hb0 : (f != 0) = false := by simp [hf]
            rw [if_neg (by simp [hf])] at hcl9
            have HCL := Lib.hid hcl9
            clear hcl9 hf
            go_wp2_with fail
            go_roundg (gk - 1)
            case measure => have := HG.out; omega
            case rel => exact PL.go ⟨hb0', hb1'⟩ HK.out HZ.out HG.out hlt HL8.out HL9.out (by rw [← HCL.out]; exact HC9.out) HOK.out HLV.out.1 HLV.out.2
          · have hb0 : (f != 0) = true := by simp [hf]
            rw [if_pos hf] at hcl9
            have HCL := Lib.hid hcl9
            clear hcl9 hf
            go_wp2_with fail
            go_roundg (gk - 1)
            case measure => have := HG.out; omega
            case rel => exact PL.go ⟨hb0', hb1'⟩ HK.out HZ.out HG.out hlt HL8.out HL9.out (by rw [← HCL.out]; exact HC9.out.put9 HTH.out HL9.out _) HOK.out HLV.out.1 HLV.out.2

end Go.Proofs.Ythcgdlcpgklhbaa
