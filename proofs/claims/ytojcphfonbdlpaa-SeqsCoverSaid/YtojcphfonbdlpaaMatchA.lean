/- The walk of base.Match: it hands back a list of its own, which isolate signs match, and turns nothing that was there. Condition: at most a million classes. -/
import Derived.Test.YtojcphfonbdlpaaRows
import Derived.Test.YtojcphfonbdlpaaPairs
import Derived.Test.YtojcphfonbdlpaaBidiPlain
import Derived.BigGuardPart
import Derived.Deep.QuietTactic
import Derived.BigQuiet
namespace Go.Proofs.Ytojcphfonbdlpaa
open Go.RowKit

theorem Try.infoInt : (Try.prog.info? 3).map (fun i => (i.zero, i.size, i.bytes)) = some (some (.int .i64 0), 1, 8) := by kernel_rfl

set_option maxHeartbeats 400000 in
theorem opens_any (c : Int) (b : Bool) (hb : Bd.opens c = b) (w : World) :
    Calls Try.prog 44 #[.int .i64 c] w fun e w' => e = .returned (.bool b) ∧ w = w' := by
  subst hb
  rcases (show c = 20 ∨ c = 21 ∨ c = 22 ∨ (c ≠ 20 ∧ c ≠ 21 ∧ c ≠ 22) from by omega) with rfl | rfl | rfl | ⟨h1, h2, h3⟩
  all_goals try
   (go_enter Try.func44, Try.ntmps44
    go_wp2
    go_ret
    exact ⟨rfl, rfl⟩)
  have hs : Bd.opens c = false := by simp [Bd.opens, h1, h2, h3]
  rw [hs]
  have b1 : (c == 20) = false := by simpa using h1
  have b2 : (c == 21) = false := by simpa using h2
  have b3 : (c == 22) = false := by simpa using h3
  clear hs
  go_enter Try.func44, Try.ntmps44
  go_wp2
  go_ret
  exact ⟨rfl, rfl⟩

/-- Up to a place the matches are known; the rest of the list is noughts. -/
def Mat (base : Nat) (e : TypeId) (A : Option Addr) (n c : Nat) (w0 : World) (zs : List Int) (i op : Value) (wr : World) : Prop :=
  ∃ (k : Nat) (pre r : List Int) (o q : List Int) (A2 : Option Addr) (n2 c2 : Nat), i = .int .i64 (k : Int) ∧ pre.length = k ∧ o.length = k ∧ zs = pre ++ r ∧ (o, q) = Bd.mrun pre ([], []) ∧
    op = .slice A2 n2 c2 ∧ Own wr base e A n c (o ++ List.replicate r.length 0) ∧ Own wr base e A2 n2 c2 q ∧ Apart A A2 ∧ Below base w0 wr

theorem Mat.go {base : Nat} {e : TypeId} {A A2 : Option Addr} {n c n2 c2 k : Nat} {w0 wr : World} {zs pre r o q o' q' : List Int} {x : Int}
    (hk : pre.length = k) (hl : o.length = k) (hz : zs = pre ++ x :: r) (hst : (o, q) = Bd.mrun pre ([], [])) (hs : Bd.mstep (o, q) x = (o', q'))
    (h1 : Own wr base e A n c (o' ++ List.replicate r.length 0)) (h2 : Own wr base e A2 n2 c2 q') (hap : Apart A A2) (hb : Below base w0 wr) :
    Mat base e A n c w0 zs (.int .i64 ((k : Int) + 1)) (.slice A2 n2 c2) wr := by
  have hlen := Bd.mstep_length (o, q) x
  rw [hs] at hlen
  refine ⟨k + 1, pre ++ [x], r, o', q', A2, n2, c2, by go_num, by simp [hk], by simp at hlen; omega, by simp [hz], ?_, rfl, h1, h2, hap, hb⟩
  simp only [Bd.mrun, List.foldl_append, List.foldl_cons, List.foldl_nil] at hst ⊢
  rw [← hst, hs]

theorem far_out {W : World} {base base2 g n2 c2 : Nat} {e : TypeId} {a2 : Option Addr} {q : List Int} (h1 : Own W base e a2 n2 c2 q) (h2 : Apart (some ⟨g, base2, none⟩) a2) (i : Nat) (u : Value) : Own (W.setCell ⟨g, i, none⟩ u) base e a2 n2 c2 q :=
  h1.far (p := ⟨g, i, none⟩) (fun a ha e => h2 _ a rfl ha e.symm) u

theorem below_append {w0 w w' : World} {B base : Nat} {e : TypeId} {A : Option Addr} {n c : Nat} {xs : List Int} (h : Below B w0 w) (hB : B ≤ w.heap.size) (hg : w.grownBy w' (Value.slice A n c).ownBlock) (ho : Own w base e A n c xs) (hb : B ≤ base) : Below B w0 w' :=
  h.grown hg hB fun k hk => Nat.le_trans hb (Own.block ho k hk).1

set_option maxHeartbeats 2000000 in
theorem match_any (B : Nat) (A : Option Addr) (n c : Nat) (zs : List Int) (w : World) (h : Ints w B A n c zs) (hB : B ≤ w.heap.size) (hn : n ≤ 1000000) :
    Calls Try.prog 42 #[.slice A n c] w (RetOwn 3 w n (Bd.mt zs)) := by
  have hcap := h.cap
  go_enter Try.func42, Try.ntmps42
  go_wp2_with (at_make; refine wpList_make_ints _ rfl _ _ 22 rfl w.heap.size 3 Try.underlying22 Try.infoInt n rfl rfl (by omega) (by simp) ?_; intro w1 hown hbel hsz)
  have hl := h.length
  have HI := Lib.hid h
  clear h
  go_loopw [13, 4] (fun i op wr => Mat w.heap.size 3 (some ⟨w.heap.size, 0, none⟩) n n w zs i op wr) (fun i _ _ => n - (intOf i).toNat)
  case atStart => exact ⟨0, [], zs, [], [], none, 0, 0, rfl, rfl, rfl, rfl, rfl, rfl, by simpa [hl] using hown, Own.nil_ _ _ _, Apart.none_right _, hbel⟩
  case round =>
    clear hown hbel
    obtain ⟨k, pre, r, o, q, A2, n2, c2, rfl, hk, ho, hz, hst, rfl, hown, hop, hap, hbel⟩ := hrel
    have hgt := hbel.size
    rcases r with _ | ⟨x, r⟩
    · have hge : n ≤ k := by rw [hz] at hl; simp at hl; omega
      have HH := Lib.hid (And.intro hst hz)
      have HO := Lib.hid hown
      clear hl hk ho hz hst hown
      go_wp2
      go_ret
      refine ⟨_, _, rfl, ?_, hbel⟩
      have h1 := HO.out
      obtain ⟨h2, h3⟩ := HH.out
      simp only [List.length_nil, List.replicate_zero, List.append_nil] at h1 h3
      rw [h3, Bd.mt, ← h2]
      exact h1
    · have hlt : k < n := by rw [hz] at hl; simp at hl; omega
      have hok : Bd.OpenOk (o, q) := by rw [hst]; exact Bd.mrun_ok _ _ Bd.ok_nil
      have HOK := Lib.hid hok
      have hown' : Own wr w.heap.size 3 (some ⟨w.heap.size, 0, none⟩) n n (o ++ 0 :: List.replicate r.length 0) := by simpa [List.replicate_succ] using hown
      obtain ⟨b, of, rfl, hb, hc⟩ := (HI.out.below (hbel.mono hB)).2.2.2.2 k x (by rw [hz, List.getElem?_append_right (by omega)]; simp [hk])
      have hbw : b < w.heap.size := by omega
      obtain ⟨_, g, e1, _, hgs, hco, hfo⟩ := hown'.mid ho
      cases e1
      have hput : ∀ y : Int, Own (wr.setCell ⟨w.heap.size, k, none⟩ (.int .i64 y)) w.heap.size 3 (some ⟨w.heap.size, 0, none⟩) n n ((o ++ [y]) ++ List.replicate r.length 0) := fun y => by simpa using hown'.put ho y
      have hbs : ∀ (i : Nat) (u : Value) (W : World), Below w.heap.size w W → Below w.heap.size w (W.setCell ⟨w.heap.size, i, none⟩ u) := fun i u W hW => hW.setCell (p := ⟨w.heap.size, i, none⟩) (Nat.le_refl _) u
      have hq := Bd.mrun_open_length pre ([], [])
      rw [← hst] at hq
      have hlen2 : n2 ≤ k := by have := hop.length; simp at hq; omega
      have HP := Lib.hid hput
      have HW := Lib.hid hown'
      have HB := Lib.hid hbs
      have HK := Lib.hid hk
      have HO := Lib.hid ho
      have HZ := Lib.hid hz
      have HS := Lib.hid hst
      clear hput hbs hk ho hz hst hown hown' hok hl hq
      by_cases hx : Bd.opens x = true
      · have HX := Lib.hid hx
        have hcap2 := hop.cap
        have ho2 : Own ((wr.setCell ⟨w.heap.size, k, none⟩ (.int .i64 (-1))).alloc (.cells #[.int .i64 (k : Int)] 3)) w.heap.size 3 A2 n2 c2 q := (far_out hop hap k _).alloc _
        clear hx
        go_wp2_with (first
          | (go_at_call 44; refine (opens_any x true HX.out _).mono ?_; rintro e w2 ⟨rfl, rfl⟩)
          | (at_builtin; refine wpList_append_ints _ rfl _ _ 22 rfl w.heap.size 3 Try.underlying22 Try.infoInt A2 n2 c2 q rfl ho2 (wr.heap.size + 1) (some ⟨wr.heap.size, 0, none⟩) 1 1 [(k : Int)] rfl (Ints.lit_at _ [(k : Int)] _ _ (by omega) rfl rfl (by simp)) (by omega) (by simp; omega) ?_; intro A3 c3 w3 ho3 hg3 hb3))
        go_roundw
        case rel =>
          have h1 := (HP.out (-1)).alloc (.cells #[.int .i64 (k : Int)] 3)
          exact Mat.go HK.out HO.out HZ.out HS.out (by have := Bd.mstep_open (st := (o, q)) HX.out; rw [this, HO.out]) (h1.kept hg3 hap) ho3 (hap.grow h1 hb3)
            (below_append ((HB.out k _ _ hbel).alloc (by simpa using hgt) _) (by simp; omega) hg3 ho2 (Nat.le_refl _))
        case measure => simp [intOf]; omega
      · have hxf : Bd.opens x = false := by simpa using hx
        have HX := Lib.hid hxf
        clear hx hxf
        by_cases hx11 : x = 11
        · subst hx11
          go_wp2_with (go_at_call 44; refine (opens_any 11 false HX.out _).mono ?_; rintro e w2 ⟨rfl, rfl⟩)
          go_roundw
          case rel => exact Mat.go HK.out HO.out HZ.out HS.out Bd.mstep_B (HP.out (-1)) (Own.nil_ _ _ _) (Apart.none_right _) (HB.out k _ _ hbel)
          case measure => simp [intOf]; omega
        · have b11 : (x == 11) = false := by simpa using hx11
          by_cases hx23 : x = 23
          · subst hx23
            rcases List.eq_nil_or_concat q with rfl | ⟨q, kk, hq⟩
            · have hn2 : n2 = 0 := hop.length.symm
              subst hn2
              go_wp2_with (go_at_call 44; refine (opens_any 23 false HX.out _).mono ?_; rintro e w2 ⟨rfl, rfl⟩)
              go_roundw
              case rel => exact Mat.go HK.out HO.out HZ.out HS.out Bd.mstep_stray (HP.out (-1)) (far_out hop hap k _) hap (HB.out k _ _ hbel)
              case measure => simp [intOf]; omega
            · rw [List.concat_eq_append] at hq
              subst hq
              obtain ⟨hn2, g2, rfl, hg2, hg2s, hc2, hf2⟩ := hop.last
              have hne : g2 ≠ w.heap.size := fun e => hap _ _ rfl rfl e.symm
              obtain ⟨j, hj⟩ : ∃ j : Nat, kk = (j : Int) := ⟨kk.toNat, by have := HOK.out kk (by simp); omega⟩
              have hjk : j < k := by have h1 : kk < (o.length : Int) := (HOK.out kk (by simp)).2; have := HO.out; omega
              subst hj
              obtain ⟨g, y, e1, _, _, _, hcj, hfj⟩ := HW.out.at_ (k := j) (by omega)
              cases e1
              have hpop := (Own.pop (hn2 ▸ hop))
              have hcp := hpop.cap.1
              have HPOP := Lib.hid hpop
              subst hn2
              clear hop hpop
              go_wp2_with (go_at_call 44; refine (opens_any 23 false HX.out _).mono ?_; rintro e w2 ⟨rfl, rfl⟩)
              go_roundw
              case rel =>
                have h1 := (((HP.out (-1)).set (k := k) (j : Int)).set (k := j) (k : Int))
                have e : ((o ++ [-1] ++ List.replicate r.length 0).set k (j : Int)).set j (k : Int) = (o ++ [(j : Int)]).set (j : Int).toNat (o.length : Int) ++ List.replicate r.length 0 := by
                  have hok := HO.out
                  subst hok
                  simp [hjk]
                rw [e] at h1
                exact Mat.go HK.out HO.out HZ.out HS.out Bd.mstep_pop h1 (far_out (far_out (far_out HPOP.out hap k _) hap k _) hap j _) hap (HB.out _ _ _ (HB.out _ _ _ (HB.out k _ _ hbel)))
              case measure => simp [intOf]; omega
          · have b23 : (x == 23) = false := by simpa using hx23
            go_wp2_with (go_at_call 44; refine (opens_any x false HX.out _).mono ?_; rintro e w2 ⟨rfl, rfl⟩)
            go_roundw
            case rel => exact Mat.go HK.out HO.out HZ.out HS.out (Bd.mstep_else HX.out hx11 hx23) (HP.out (-1)) (far_out hop hap k _) hap (HB.out k _ _ hbel)
            case measure => simp [intOf]; omega

end Go.Proofs.Ytojcphfonbdlpaa
