/- The walk of the reference's Match: it hands back a list of its own, which isolate signs match, and turns nothing that was there. Condition: at most a million classes. -/
import Derived.Test.YtojcphfonbdlpaaMatchA
namespace Go.Proofs.Ytojcphfonbdlpaa
open Go.RowKit

set_option maxHeartbeats 400000 in
theorem ropens_any (c : Int) (b : Bool) (hb : Bd.opens c = b) (w : World) :
    Calls Try.prog 36 #[.int .i64 c] w fun e w' => e = .returned (.bool b) ∧ w = w' := by
  subst hb
  rcases (show c = 20 ∨ c = 21 ∨ c = 22 ∨ (c ≠ 20 ∧ c ≠ 21 ∧ c ≠ 22) from by omega) with rfl | rfl | rfl | ⟨h1, h2, h3⟩
  all_goals try
   (go_enter Try.func36, Try.ntmps36
    go_wp2
    go_ret
    exact ⟨rfl, rfl⟩)
  have hs : Bd.opens c = false := by simp [Bd.opens, h1, h2, h3]
  rw [hs]
  have b1 : (c == 20) = false := by simpa using h1
  have b2 : (c == 21) = false := by simpa using h2
  have b3 : (c == 22) = false := by simpa using h3
  clear hs
  go_enter Try.func36, Try.ntmps36
  go_wp2
  go_ret
  exact ⟨rfl, rfl⟩

/-- Up to a place the matches are known. -/
def MatB (base : Nat) (e : TypeId) (w0 : World) (zs : List Int) (out op i : Value) (wr : World) : Prop :=
  ∃ (k : Nat) (pre r : List Int) (o q : List Int) (A A2 : Option Addr) (c1 n2 c2 : Nat), i = .int .i64 (k : Int) ∧ pre.length = k ∧ o.length = k ∧ zs = pre ++ r ∧ (o, q) = Bd.mrun pre ([], []) ∧
    out = .slice A k c1 ∧ op = .slice A2 n2 c2 ∧ Own wr base e A k c1 o ∧ Own wr base e A2 n2 c2 q ∧ Apart A A2 ∧ Below base w0 wr

theorem MatB.go {base : Nat} {e : TypeId} {A A2 : Option Addr} {c1 n2 c2 k : Nat} {w0 wr : World} {zs pre r o q o' q' : List Int} {x : Int}
    (hk : pre.length = k) (hl : o.length = k) (hz : zs = pre ++ x :: r) (hst : (o, q) = Bd.mrun pre ([], [])) (hs : Bd.mstep (o, q) x = (o', q'))
    (h1 : Own wr base e A (k + 1) c1 o') (h2 : Own wr base e A2 n2 c2 q') (hap : Apart A A2) (hb : Below base w0 wr) :
    MatB base e w0 zs (.slice A (k + 1) c1) (.slice A2 n2 c2) (.int .i64 ((k : Int) + 1)) wr := by
  have hlen := Bd.mstep_length (o, q) x
  rw [hs] at hlen
  refine ⟨k + 1, pre ++ [x], r, o', q', A, A2, c1, n2, c2, by go_num, by simp [hk], by simp at hlen; omega, by simp [hz], ?_, rfl, rfl, h1, h2, hap, hb⟩
  simp only [Bd.mrun, List.foldl_append, List.foldl_cons, List.foldl_nil] at hst ⊢
  rw [← hst, hs]

/-- what stands behind the round's first append -/
theorem matB_one {w0 wr w3 : World} {base k c1 n2 c2 c3 : Nat} {e : TypeId} {A A2 A3 : Option Addr} {o q : List Int} {X : Obj}
    (hown : Own wr base e A k c1 o) (hop : Own wr base e A2 n2 c2 q) (hap : Apart A A2) (hbel : Below base w0 wr) (hgt : base ≤ wr.heap.size) (ho : o.length = k)
    (ho3 : Own w3 base e A3 (k + 1) c3 (o ++ [-1])) (hg3 : (wr.alloc X).grownBy w3 (Value.slice A k c1).ownBlock)
    (hb3 : (Value.slice A3 (k + 1) c3).ownBlock = (Value.slice A k c1).ownBlock ∨ (Value.slice A3 (k + 1) c3).ownBlock = some (wr.alloc X).heap.size) :
    Own w3 base e A2 n2 c2 q ∧ Apart A3 A2 ∧ Below base w0 w3 ∧ base ≤ w3.heap.size ∧ ∃ g, A3 = some ⟨g, 0, none⟩ ∧ base ≤ g ∧ g < w3.heap.size ∧ w3.cell? ⟨g, k, none⟩ = some (.int .i64 (-1)) ∧ w3.frozen? ⟨g, k, none⟩ = false := by
  have h1 := (hop.alloc X).kept hg3 hap.symm
  have h2 := (hap.symm.grow (hop.alloc X) hb3).symm
  have h3 := below_append (hbel.alloc hgt X) (by simp; omega) hg3 (hown.alloc X) (Nat.le_refl _)
  obtain ⟨_, g, h4, h5, h6, h7, h8⟩ := ho3.last
  rw [ho] at h7 h8
  exact ⟨h1, h2, h3, Nat.le_trans hgt (Nat.le_trans (by simp) hg3.size), g, h4, h5, h6, h7, h8⟩

set_option maxHeartbeats 2000000 in
theorem rmatch_any (B : Nat) (A : Option Addr) (n c : Nat) (zs : List Int) (w : World) (h : Ints w B A n c zs) (hB : B ≤ w.heap.size) (hn : n ≤ 1000000) :
    Calls Try.prog 18 #[.slice A n c] w (RetOwn 3 w n (Bd.mt zs)) := by
  have hcap := h.cap
  have hl := h.length
  have HI := Lib.hid h
  clear h
  go_enter Try.func18, Try.ntmps18
  go_wp2_with fail
  go_loopw [3, 4, 5] (fun out op i wr => MatB w.heap.size 3 w zs out op i wr) (fun _ _ i _ => n - (intOf i).toNat)
  case atStart => exact ⟨0, [], zs, [], [], none, none, 0, 0, 0, rfl, rfl, rfl, rfl, rfl, rfl, rfl, Own.nil_ _ _ _, Own.nil_ _ _ _, Apart.none_right _, Below.refl _ _⟩
  case round =>
    obtain ⟨k, pre, r, o, q, A1, A2, c1, n2, c2, rfl, hk, ho, hz, hst, rfl, rfl, hown, hop, hap, hbel⟩ := hrel
    have hgt := hbel.size
    rcases r with _ | ⟨x, r⟩
    · have hge : n ≤ k := by rw [hz] at hl; simp at hl; omega
      have hnk : n = k := by rw [hz] at hl; simp at hl; omega
      have HH := Lib.hid (And.intro hst hz)
      have HO := Lib.hid hown
      have HN := Lib.hid hnk
      clear hl hk ho hz hst hown hnk
      go_wp2
      go_ret
      obtain rfl : n = k := HN.out
      refine ⟨_, _, rfl, ?_, hbel⟩
      have h1 := HO.out
      obtain ⟨h2, h3⟩ := HH.out
      simp only [List.append_nil] at h3
      rw [h3, Bd.mt, ← h2]
      exact h1
    · have hlt : k < n := by rw [hz] at hl; simp at hl; omega
      have hok : Bd.OpenOk (o, q) := by rw [hst]; exact Bd.mrun_ok _ _ Bd.ok_nil
      have HOK := Lib.hid hok
      obtain ⟨b, of, rfl, hb, _⟩ := (HI.out.below (hbel.mono hB)).2.2.2.2 k x (by rw [hz, List.getElem?_append_right (by omega)]; simp [hk])
      have hcl : ∀ W, Below w.heap.size w W → W.cell? ⟨b, of + k, none⟩ = some (.int .i64 x) := by
        intro W hW
        obtain ⟨b', of', e, _, hc⟩ := (HI.out.below (hW.mono hB)).2.2.2.2 k x (by rw [hz, List.getElem?_append_right (by omega)]; simp [hk])
        cases e; exact hc
      have hbw : b < w.heap.size := by omega
      have hq := Bd.mrun_open_length pre ([], [])
      rw [← hst] at hq
      have hlen2 : n2 ≤ k := by have := hop.length; simp at hq; omega
      have hcap1 := hown.cap
      have hcap2 := hop.cap
      have HCL := Lib.hid hcl
      have HK := Lib.hid hk
      have HO := Lib.hid ho
      have HZ := Lib.hid hz
      have HS := Lib.hid hst
      clear hcl hk ho hz hst hok hl hq
      by_cases hx : Bd.opens x = true
      · have HX := Lib.hid hx
        clear hx
        go_wp2_with (first
          | (at_builtin; refine wpList_append_ints _ rfl (.tmp 13) (.tmp 14) 22 rfl w.heap.size 3 Try.underlying22 Try.infoInt A1 k c1 o rfl (hown.alloc _) (wr.heap.size + 1) (some ⟨wr.heap.size, 0, none⟩) 1 1 [-1] rfl (Ints.lit_at _ [-1] _ _ (by omega) rfl rfl rfl) (by omega) (by simp; omega) ?_; intro A3 c3 w3 ho3 hg3 hb3; obtain ⟨hop3, hap3, hbel3, hgt3, g, rfl, hg, hgs, hck, hfk⟩ := matB_one hown hop hap hbel hgt HO.out ho3 hg3 hb3; have hc3 := HCL.out _ hbel3)
          | (go_at_call 36; refine (ropens_any x true HX.out _).mono ?_; rintro e w2 ⟨rfl, rfl⟩)
          | (at_builtin; refine wpList_append_ints _ rfl (.tmp 24) (.tmp 26) 22 rfl w.heap.size 3 Try.underlying22 Try.infoInt A2 n2 c2 q rfl (hop3.alloc _) (w3.heap.size + 1) (some ⟨w3.heap.size, 0, none⟩) 1 1 [(k : Int)] rfl (Ints.lit_at _ [(k : Int)] _ _ (by omega) rfl rfl (by simp)) (by omega) (by simp; omega) ?_; intro A4 c4 w4 ho4 hg4 hb4))
        go_roundw
        case rel =>
          have h1 := ho3.alloc (.cells #[.int .i64 (k : Int)] 3)
          exact MatB.go HK.out HO.out HZ.out HS.out (by have := Bd.mstep_open (st := (o, q)) HX.out; rw [this, HO.out]) (h1.kept hg4 hap3) ho4 (hap3.grow h1 hb4)
            (below_append (hbel3.alloc hgt3 _) (by simp; omega) hg4 (hop3.alloc _) (Nat.le_refl _))
        case measure => simp [intOf]; omega
      · have hxf : Bd.opens x = false := by simpa using hx
        have HX := Lib.hid hxf
        clear hx hxf
        by_cases hx11 : x = 11
        · subst hx11
          go_wp2_with (first
            | (at_builtin; refine wpList_append_ints _ rfl (.tmp 13) (.tmp 14) 22 rfl w.heap.size 3 Try.underlying22 Try.infoInt A1 k c1 o rfl (hown.alloc _) (wr.heap.size + 1) (some ⟨wr.heap.size, 0, none⟩) 1 1 [-1] rfl (Ints.lit_at _ [-1] _ _ (by omega) rfl rfl rfl) (by omega) (by simp; omega) ?_; intro A3 c3 w3 ho3 hg3 hb3; obtain ⟨hop3, hap3, hbel3, hgt3, g, rfl, hg, hgs, hck, hfk⟩ := matB_one hown hop hap hbel hgt HO.out ho3 hg3 hb3; have hc3 := HCL.out _ hbel3)
            | (go_at_call 36; refine (ropens_any 11 false HX.out _).mono ?_; rintro e w2 ⟨rfl, rfl⟩))
          go_roundw
          case rel => exact MatB.go HK.out HO.out HZ.out HS.out Bd.mstep_B ho3 (Own.nil_ _ _ _) (Apart.none_right _) hbel3
          case measure => simp [intOf]; omega
        · have b11 : (x == 11) = false := by simpa using hx11
          by_cases hx23 : x = 23
          · subst hx23
            rcases List.eq_nil_or_concat q with rfl | ⟨q, kk, hq⟩
            · have hn2 : n2 = 0 := hop.length.symm
              subst hn2
              go_wp2_with (first
                | (at_builtin; refine wpList_append_ints _ rfl (.tmp 13) (.tmp 14) 22 rfl w.heap.size 3 Try.underlying22 Try.infoInt A1 k c1 o rfl (hown.alloc _) (wr.heap.size + 1) (some ⟨wr.heap.size, 0, none⟩) 1 1 [-1] rfl (Ints.lit_at _ [-1] _ _ (by omega) rfl rfl rfl) (by omega) (by simp; omega) ?_; intro A3 c3 w3 ho3 hg3 hb3; obtain ⟨hop3, hap3, hbel3, hgt3, g, rfl, hg, hgs, hck, hfk⟩ := matB_one hown hop hap hbel hgt HO.out ho3 hg3 hb3; have hc3 := HCL.out _ hbel3)
                | (go_at_call 36; refine (ropens_any 23 false HX.out _).mono ?_; rintro e w2 ⟨rfl, rfl⟩))
              go_roundw
              case rel => exact MatB.go HK.out HO.out HZ.out HS.out Bd.mstep_stray ho3 hop3 hap3 hbel3
              case measure => simp [intOf]; omega
            · rw [List.concat_eq_append] at hq
              subst hq
              obtain ⟨hn2, _⟩ := hop.last
              obtain ⟨j, hj⟩ : ∃ j : Nat, kk = (j : Int) := ⟨kk.toNat, by have := HOK.out kk (by simp); omega⟩
              have hjk : j < k := by have h1 : kk < (o.length : Int) := (HOK.out kk (by simp)).2; have := HO.out; omega
              subst hj
              subst hn2
              go_wp2_with (first
                | (at_builtin; refine wpList_append_ints _ rfl (.tmp 13) (.tmp 14) 22 rfl w.heap.size 3 Try.underlying22 Try.infoInt A1 k c1 o rfl (hown.alloc _) (wr.heap.size + 1) (some ⟨wr.heap.size, 0, none⟩) 1 1 [-1] rfl (Ints.lit_at _ [-1] _ _ (by omega) rfl rfl rfl) (by omega) (by simp; omega) ?_; intro A3 c3 w3 ho3 hg3 hb3; obtain ⟨hop3, hap3, hbel3, hgt3, g, rfl, hg, hgs, hck, hfk⟩ := matB_one hown hop hap hbel hgt HO.out ho3 hg3 hb3; have hc3 := HCL.out _ hbel3; obtain ⟨_, g2, rfl, hg2, hg2s, hc2, hf2⟩ := hop3.last; have hne : g2 ≠ g := fun e => hap3 _ _ rfl rfl e.symm; obtain ⟨g', y, e1, _, _, _, hcj, hfj⟩ := ho3.at_ (k := j) (by omega); cases e1; have hpop := Own.pop hop3; have hcp := hpop.cap.1)
                | (go_at_call 36; refine (ropens_any 23 false HX.out _).mono ?_; rintro e w2 ⟨rfl, rfl⟩))
              go_roundw
              case rel =>
                have h1 := ((ho3.set (k := k) (j : Int)).set (k := j) (k : Int))
                have e : ((o ++ [-1]).set k (j : Int)).set j (k : Int) = (o ++ [(j : Int)]).set (j : Int).toNat (o.length : Int) := by
                  have hok := HO.out
                  subst hok
                  simp
                rw [e] at h1
                exact MatB.go HK.out HO.out HZ.out HS.out Bd.mstep_pop h1 (far_out (far_out hpop hap3 k _) hap3 j _) hap3 ((hbel3.setCell (p := ⟨g, k, none⟩) hg _).setCell (p := ⟨g, j, none⟩) hg _)
              case measure => simp [intOf]; omega
          · have b23 : (x == 23) = false := by simpa using hx23
            go_wp2_with (first
              | (at_builtin; refine wpList_append_ints _ rfl (.tmp 13) (.tmp 14) 22 rfl w.heap.size 3 Try.underlying22 Try.infoInt A1 k c1 o rfl (hown.alloc _) (wr.heap.size + 1) (some ⟨wr.heap.size, 0, none⟩) 1 1 [-1] rfl (Ints.lit_at _ [-1] _ _ (by omega) rfl rfl rfl) (by omega) (by simp; omega) ?_; intro A3 c3 w3 ho3 hg3 hb3; obtain ⟨hop3, hap3, hbel3, hgt3, g, rfl, hg, hgs, hck, hfk⟩ := matB_one hown hop hap hbel hgt HO.out ho3 hg3 hb3; have hc3 := HCL.out _ hbel3)
              | (go_at_call 36; refine (ropens_any x false HX.out _).mono ?_; rintro e w2 ⟨rfl, rfl⟩))
            go_roundw
            case rel => exact MatB.go HK.out HO.out HZ.out HS.out (Bd.mstep_else HX.out hx11 hx23) ho3 hop3 hap3 hbel3
            case measure => simp [intOf]; omega

end Go.Proofs.Ytojcphfonbdlpaa
