/- Joined: StepP StepQ. -/
import Derived.Test.YtngdolmmaiogiaaJ21

/- What the machine does step by step, plainly. Condition: none; once by a contract of itself. -/
namespace Go.Proofs.Ytngdolmmaiogiaa
open Go.RowKit

theorem once_any (P : PFt) (Ls : List LkS) (F : Fnt) (B bm : Nat) : ∀ (k d L : Nat) (A : Option Addr) (n c : Nat) (gs : List Gl) (nn at_ : Int) (w : World), d + k = 9 → FtR w B F P → SlR w B 4 (LkR2 w B) F.LA F.ln F.lc Ls → (∀ x ∈ Ls, LkGood x.1 x.2) → GlsR w w.heap.size A n c gs → MBox w bm F L → B ≤ w.heap.size → B ≤ bm → n ≤ 16384 → L ≤ 65536 →
    Calls Try.prog 31 #[.pointer (some ⟨bm, 0, none⟩), .int .i64 nn, .slice A n c, .int .i64 at_, .int .i64 (d : Int)] w (RetCtx w bm F (onceB P Ls k L gs nn at_)) := by
  intro k
  induction k with
  | zero =>
    intro d L A n c gs nn at_ w hdk hF hLs hG hI hM hB hBm hn hL
    exact once_step P Ls F B bm d 0 L A n c gs nn at_ w hdk (fun k' h => by omega) hF hLs hG hI hM hB hBm hn hL
  | succ k ih =>
    intro d L A n c gs nn at_ w hdk hF hLs hG hI hM hB hBm hn hL
    refine once_step P Ls F B bm d (k + 1) L A n c gs nn at_ w hdk (fun k' hk W A n c gs lk p L hbt hm hi hn _ hL => ?_) hF hLs hG hI hM hB hBm hn hL
    obtain rfl : k = k' := by omega
    have hbe : Below B w W := hbt.below hBm hB
    exact ih (d + 1) L A n c gs lk (p : Int) W (by omega) (hF.below hbe) (SlR.below hLs hbe fun _ _ h => h.below hbe) hG hi hm (Nat.le_trans hB hbe.size) hBm hn hL

theorem sngB_next {P : PFt} {l : Lk} {su : List PSu} {gs : List Gl} {p : Nat} {r : List Gl × Int} (h : sngB P l su gs p = some r) : 0 ≤ r.2 := by
  unfold sngB at h
  split at h
  · rename_i out k he
    split at h
    · cases h
      unfold sng0 at he
      split at he
      · split at he
        · rename_i h5
          cases he
          rcases applyG_cases (l.ki, psOf su) gs (p : Int) with h1 | ⟨p', g, zs, h1, h2, h3, h4⟩
          · rw [h1] at h5; cases h5
          · rw [h4]; show (0 : Int) ≤ (p' : Int) + zs.length; omega
        · cases he
      · split at he
        · cases hl : ligaB P l su gs p with
          | none => rw [hl] at he; cases he
          | some x => rw [hl] at he; cases he; show (0 : Int) ≤ (x.2 : Int); omega
        · split at he
          · cases hl : revAp P l su gs p with
            | none => rw [hl] at he; cases he
            | some x => rw [hl] at he; cases he; show (0 : Int) ≤ (p : Int) + 1; omega
          · cases he
    · cases h
  · cases h
/-- what once does when it does something -/
theorem onceB_some {P : PFt} {Ls : List LkS} : ∀ (k L : Nat) (gs : List Gl) (nn at_ : Int) (r : List Gl × Int), (onceB P Ls k L gs nn at_).1 = some r → (onceB P Ls k L gs nn at_).2 < L ∧ 0 ≤ r.2
  | 0, L, _, _, _, r, h => by cases h
  | k + 1, L, gs, nn, at_, r, h => by
    by_cases hc : 0 ≤ nn ∧ nn < (Ls.length : Int) ∧ 0 ≤ at_ ∧ at_ < (gs.length : Int) ∧ L ≠ 0 ∧ gs.length ≤ 16384
    · obtain ⟨i, rfl⟩ : ∃ i : Nat, nn = (i : Int) := ⟨nn.toNat, by omega⟩
      obtain ⟨p, rfl⟩ : ∃ p : Nat, at_ = (p : Int) := ⟨at_.toNat, by omega⟩
      obtain ⟨⟨l, su⟩, hl⟩ : ∃ x, Ls[i]? = some x := ⟨_, List.getElem?_eq_getElem (by omega)⟩
      obtain ⟨g, hg⟩ : ∃ x, gs[p]? = some x := ⟨_, List.getElem?_eq_getElem (by omega)⟩
      have hL := hc.2.2.2.2.1
      rw [onceB_in hl hg hc.2.2.2.2.1 hc.2.2.2.2.2] at h ⊢
      split at h
      · cases h
      · rename_i h1
        rw [if_neg h1]
        split at h
        · rename_i h2
          rw [if_pos h2]
          split at h
          · cases h
          · rename_i x h3
            unfold ctxB at h ⊢
            rw [h3] at h ⊢
            obtain ⟨i', ps⟩ := x
            simp only at h ⊢
            cases h4 : su[i']? with
            | none => rw [h4] at h; cases h
            | some s =>
              rw [h4] at h
              cases h
              have h5 := foldN_ok (do_ := doB P Ls k) doB_len doB_left s.ne ⟨gs, natI ps, L - 1⟩ hc.2.2.2.2.2
              refine ⟨?_, ?_⟩
              · exact Nat.lt_of_le_of_lt h5.2 (by show L - 1 < L; omega)
              · show (0 : Int) ≤ max _ _
                omega
        · rename_i h2
          rw [if_neg h2]
          split at h
          · rename_i r' h3
            cases h
            exact ⟨by show L - 1 < L; omega, sngB_next h3⟩
          · cases h
    · rw [onceB_out hc] at h
      cases h
theorem revAp_len {P : PFt} {l : Lk} {su : List PSu} {gs out : List Gl} {p : Nat} (h : revAp P l su gs p = some out) : out.length = gs.length := by
  obtain ⟨i, g, s, h1, h2, h3⟩ : ∃ (i : Nat) (g : Gl) (s : PSu), su[i]? = some s ∧ gs[p]? = some g ∧ out = revOut s gs p g := by
    unfold revAp at h
    split at h
    · cases h
    · split at h
      · rename_i s g h1 h2; cases h; exact ⟨_, g, s, h1, h2, rfl⟩
      · cases h
  rw [h3]
  unfold revOut
  split
  · have h4 := congrArg List.length (split_at h2)
    simp at h4 ⊢
    omega
  · rfl
theorem onceB_rev {P : PFt} {Ls : List LkS} {k L i : Nat} {gs : List Gl} {at_ : Int} {l : Lk} {su : List PSu} {r : List Gl × Int} (hl : Ls[i]? = some (l, su)) (hk : l.ki = 5) (h : (onceB P Ls (k + 1) L gs (i : Int) at_).1 = some r) : r.1.length = gs.length := by
  by_cases hc : 0 ≤ (i : Int) ∧ (i : Int) < (Ls.length : Int) ∧ 0 ≤ at_ ∧ at_ < (gs.length : Int) ∧ L ≠ 0 ∧ gs.length ≤ 16384
  · obtain ⟨p, rfl⟩ : ∃ p : Nat, at_ = (p : Int) := ⟨at_.toNat, by omega⟩
    obtain ⟨g, hg⟩ : ∃ x, gs[p]? = some x := ⟨_, List.getElem?_eq_getElem (by omega)⟩
    rw [onceB_in hl hg hc.2.2.2.2.1 hc.2.2.2.2.2] at h
    split at h
    · cases h
    · rw [if_neg (by omega)] at h
      split at h
      · rename_i r' h3
        cases h
        unfold sngB at h3
        split at h3
        · rename_i out x he
          split at h3
          · cases h3
            unfold sng0 at he
            rw [if_neg (by omega), if_neg (by omega), if_pos hk] at he
            cases hr : revAp P l su gs p with
            | none => rw [hr] at he; cases he
            | some x => rw [hr] at he; cases he; exact revAp_len hr
          · cases h3
        · cases h3
      · cases h
  · rw [onceB_out hc] at h
    cases h

/-- a step is for a glyph -/
def hitB (g : Gl) (mk : Int) : Bool := bits BinOp.and IntKind.i64 g.ma mk != 0
/-- a lookup from behind: the places below i are to come -/
def bwdB (P : PFt) (Ls : List LkS) (x : Int × Int) : Nat → List Gl → Nat → List Gl × Nat
  | 0, gs, L => (gs, L)
  | i + 1, gs, L => match gs[i]? with
    | none => (gs, L)
    | some g => if hitB g x.2 then match onceB P Ls 9 L gs x.1 (i : Int) with
        | (some r, L') => bwdB P Ls x i r.1 L'
        | (none, L') => bwdB P Ls x i gs L'
      else bwdB P Ls x i gs L
/-- a lookup everywhere, from place i on -/
def fwdB (P : PFt) (Ls : List LkS) (x : Int × Int) (i : Nat) (gs : List Gl) (L : Nat) : List Gl × Nat :=
  match hg : gs[i]? with
  | none => (gs, L)
  | some g => if hitB g x.2 then match ho : onceB P Ls 9 L gs x.1 (i : Int) with
      | (some r, L') => fwdB P Ls x r.2.toNat r.1 L'
      | (none, L') => fwdB P Ls x (i + 1) gs L'
    else fwdB P Ls x (i + 1) gs L
termination_by (L, gs.length - i)
decreasing_by
  · have h1 := (onceB_some 9 L gs x.1 (i : Int) r (by rw [ho])).1
    rw [ho] at h1
    exact Prod.Lex.left _ _ h1
  · have h1 := (onceB_ok (P := P) (Ls := Ls) 9 L gs x.1 (i : Int)).2
    rw [ho] at h1
    have h2 := lt_of_some' hg
    rcases Nat.lt_or_ge L' L with h3 | h3
    · exact Prod.Lex.left _ _ h3
    · have h4 : L' = L := Nat.le_antisymm h1 h3
      subst h4
      exact Prod.Lex.right _ (by omega)
  · have h2 := lt_of_some' hg
    exact Prod.Lex.right _ (by omega)
def lookB (P : PFt) (Ls : List LkS) (gs : List Gl) (L : Nat) (x : Int × Int) : List Gl × Nat :=
  if 0 ≤ x.1 then match Ls[x.1.toNat]? with
    | none => (gs, L)
    | some k => if k.1.ki = 5 then bwdB P Ls x gs.length gs L else fwdB P Ls x 0 gs L
  else (gs, L)
def allB (P : PFt) (Ls : List LkS) (xs : List (Int × Int)) (gs : List Gl) (L : Nat) : List Gl × Nat := xs.foldl (fun st x => lookB P Ls st.1 st.2 x) (gs, L)
theorem fwdB_end {P : PFt} {Ls : List LkS} {x : Int × Int} {i : Nat} {gs : List Gl} {L : Nat} (h : gs.length ≤ i) : fwdB P Ls x i gs L = (gs, L) := by
  rw [fwdB]
  split
  · rfl
  · rename_i g hg; have := lt_of_some' hg; omega
theorem fwdB_miss {P : PFt} {Ls : List LkS} {x : Int × Int} {i : Nat} {gs : List Gl} {L : Nat} {g : Gl} (hg : gs[i]? = some g) (h : hitB g x.2 = false) : fwdB P Ls x i gs L = fwdB P Ls x (i + 1) gs L := by
  rw [fwdB]
  split
  · rename_i h1; rw [hg] at h1; cases h1
  · rename_i g' h1; rw [hg] at h1; cases h1; rw [if_neg (by rw [h]; exact Bool.false_ne_true)]
theorem fwdB_none {P : PFt} {Ls : List LkS} {x : Int × Int} {i : Nat} {gs : List Gl} {L L' : Nat} {g : Gl} (hg : gs[i]? = some g) (h : hitB g x.2 = true) (ho : onceB P Ls 9 L gs x.1 (i : Int) = (none, L')) : fwdB P Ls x i gs L = fwdB P Ls x (i + 1) gs L' := by
  rw [fwdB]
  split
  · rename_i h1; rw [hg] at h1; cases h1
  · rename_i g' h1
    rw [hg] at h1; cases h1
    rw [if_pos h]
    split
    · rename_i r L2 h2; rw [ho] at h2; cases h2
    · rename_i L2 h2; rw [ho] at h2; cases h2; rfl
theorem fwdB_some {P : PFt} {Ls : List LkS} {x : Int × Int} {i : Nat} {gs : List Gl} {L L' : Nat} {g : Gl} {r : List Gl × Int} (hg : gs[i]? = some g) (h : hitB g x.2 = true) (ho : onceB P Ls 9 L gs x.1 (i : Int) = (some r, L')) : fwdB P Ls x i gs L = fwdB P Ls x r.2.toNat r.1 L' := by
  rw [fwdB]
  split
  · rename_i h1; rw [hg] at h1; cases h1
  · rename_i g' h1
    rw [hg] at h1; cases h1
    rw [if_pos h]
    split
    · rename_i r2 L2 h2; rw [ho] at h2; cases h2; rfl
    · rename_i L2 h2; rw [ho] at h2; cases h2
theorem bwdB_miss {P : PFt} {Ls : List LkS} {x : Int × Int} {i : Nat} {gs : List Gl} {L : Nat} {g : Gl} (hg : gs[i]? = some g) (h : hitB g x.2 = false) : bwdB P Ls x (i + 1) gs L = bwdB P Ls x i gs L := by
  rw [bwdB, hg]
  show (if hitB g x.2 = true then _ else _) = _
  rw [if_neg (by rw [h]; exact Bool.false_ne_true)]
theorem bwdB_none {P : PFt} {Ls : List LkS} {x : Int × Int} {i : Nat} {gs : List Gl} {L L' : Nat} {g : Gl} (hg : gs[i]? = some g) (h : hitB g x.2 = true) (ho : onceB P Ls 9 L gs x.1 (i : Int) = (none, L')) : bwdB P Ls x (i + 1) gs L = bwdB P Ls x i gs L' := by
  rw [bwdB, hg]
  show (if hitB g x.2 = true then _ else _) = _
  rw [if_pos h, ho]
theorem bwdB_some {P : PFt} {Ls : List LkS} {x : Int × Int} {i : Nat} {gs : List Gl} {L L' : Nat} {g : Gl} {r : List Gl × Int} (hg : gs[i]? = some g) (h : hitB g x.2 = true) (ho : onceB P Ls 9 L gs x.1 (i : Int) = (some r, L')) : bwdB P Ls x (i + 1) gs L = bwdB P Ls x i r.1 L' := by
  rw [bwdB, hg]
  show (if hitB g x.2 = true then _ else _) = _
  rw [if_pos h, ho]
/-- What a machine leaves that did steps. -/
def RetM (w : World) (bm : Nat) (F : Fnt) (r : List Gl × Nat) : Ending → World → Prop := fun e w' => ∃ A c, e = .returned (.slice A r.1.length c) ∧ GlsR w' w'.heap.size A r.1.length c r.1 ∧ MBox w' bm F r.2 ∧ But bm w w'

end Go.Proofs.Ytngdolmmaiogiaa

/- What holds throughout a machine's steps, plainly. No condition. -/
namespace Go.Proofs.Ytngdolmmaiogiaa
open Go.RowKit

section
variable {P : PFt} {Ls : List LkS} {x : Int × Int} {I : List Gl → Nat → Prop}
theorem fwdB_inv (h1 : ∀ gs L (i : Nat) g r L', I gs L → gs[i]? = some g → hitB g x.2 = true → onceB P Ls 9 L gs x.1 (i : Int) = (some r, L') → I r.1 L')
    (h2 : ∀ gs L (i : Nat) g L', I gs L → gs[i]? = some g → hitB g x.2 = true → onceB P Ls 9 L gs x.1 (i : Int) = (none, L') → I gs L') (i : Nat) (gs : List Gl) (L : Nat) (h : I gs L) : I (fwdB P Ls x i gs L).1 (fwdB P Ls x i gs L).2 := by
  fun_induction fwdB P Ls x i gs L with
  | case1 => exact h
  | case2 i gs L g hg hh r L' ho ih => exact ih (h1 _ _ _ _ _ _ h hg hh ho)
  | case3 i gs L g hg hh L' ho ih => exact ih (h2 _ _ _ _ _ h hg hh ho)
  | case4 i gs L g hg hh ih => exact ih h
theorem bwdB_inv (h1 : ∀ gs L (i : Nat) g r L', I gs L → gs[i]? = some g → hitB g x.2 = true → onceB P Ls 9 L gs x.1 (i : Int) = (some r, L') → I r.1 L')
    (h2 : ∀ gs L (i : Nat) g L', I gs L → gs[i]? = some g → hitB g x.2 = true → onceB P Ls 9 L gs x.1 (i : Int) = (none, L') → I gs L') : ∀ (i : Nat) (gs : List Gl) (L : Nat), I gs L → I (bwdB P Ls x i gs L).1 (bwdB P Ls x i gs L).2
  | 0, gs, L, h => h
  | i + 1, gs, L, h => by
    cases hg : gs[i]? with
    | none => rw [bwdB, hg]; exact h
    | some g =>
      cases hh : hitB g x.2 with
      | false => rw [bwdB_miss hg hh]; exact bwdB_inv h1 h2 i gs L h
      | true =>
        rcases ho : onceB P Ls 9 L gs x.1 (i : Int) with ⟨_ | r, L'⟩
        · rw [bwdB_none hg hh ho]; exact bwdB_inv h1 h2 i gs L' (h2 _ _ _ _ _ h hg hh ho)
        · rw [bwdB_some hg hh ho]; exact bwdB_inv h1 h2 i r.1 L' (h1 _ _ _ _ _ _ h hg hh ho)
theorem lookB_inv (h1 : ∀ gs L (i : Nat) g r L', I gs L → gs[i]? = some g → hitB g x.2 = true → onceB P Ls 9 L gs x.1 (i : Int) = (some r, L') → I r.1 L')
    (h2 : ∀ gs L (i : Nat) g L', I gs L → gs[i]? = some g → hitB g x.2 = true → onceB P Ls 9 L gs x.1 (i : Int) = (none, L') → I gs L') (gs : List Gl) (L : Nat) (h : I gs L) : I (lookB P Ls gs L x).1 (lookB P Ls gs L x).2 := by
  unfold lookB
  split
  · split
    · exact h
    · split
      · exact bwdB_inv h1 h2 _ gs L h
      · exact fwdB_inv h1 h2 _ gs L h
  · exact h
theorem allB_inv {I : List Gl → Nat → Prop} : ∀ (xs : List (Int × Int)) (gs : List Gl) (L : Nat), (∀ x ∈ xs, ∀ gs L (i : Nat) g r L', I gs L → gs[i]? = some g → hitB g x.2 = true → onceB P Ls 9 L gs x.1 (i : Int) = (some r, L') → I r.1 L') →
    (∀ x ∈ xs, ∀ gs L (i : Nat) g L', I gs L → gs[i]? = some g → hitB g x.2 = true → onceB P Ls 9 L gs x.1 (i : Int) = (none, L') → I gs L') → I gs L → I (allB P Ls xs gs L).1 (allB P Ls xs gs L).2
  | [], _, _, _, _, h => h
  | x :: r, gs, L, h1, h2, h => allB_inv r (lookB P Ls gs L x).1 (lookB P Ls gs L x).2 (fun y hy => h1 y (List.mem_cons_of_mem _ hy)) (fun y hy => h2 y (List.mem_cons_of_mem _ hy)) (lookB_inv (h1 x List.mem_cons_self) (h2 x List.mem_cons_self) gs L h)
theorem lookB_ok (gs : List Gl) (L : Nat) (h : gs.length ≤ 16384) : (lookB P Ls gs L x).1.length ≤ 16384 ∧ (lookB P Ls gs L x).2 ≤ L :=
  lookB_inv (I := fun g l => g.length ≤ 16384 ∧ l ≤ L)
    (fun gs L i g r L' h _ _ ho => by
      have h1 := onceB_ok (P := P) (Ls := Ls) 9 L gs x.1 (i : Int)
      rw [ho] at h1
      exact ⟨h1.1 r rfl, Nat.le_trans h1.2 h.2⟩)
    (fun gs L i g L' h _ _ ho => by
      have h1 := onceB_ok (P := P) (Ls := Ls) 9 L gs x.1 (i : Int)
      rw [ho] at h1
      exact ⟨h.1, Nat.le_trans h1.2 h.2⟩) gs L ⟨h, Nat.le_refl _⟩
theorem allB_cons (x : Int × Int) (r : List (Int × Int)) (gs : List Gl) (L : Nat) : allB P Ls (x :: r) gs L = allB P Ls r (lookB P Ls gs L x).1 (lookB P Ls gs L x).2 := rfl
theorem allB_ok (xs : List (Int × Int)) (gs : List Gl) (L : Nat) (h : gs.length ≤ 16384) : (allB P Ls xs gs L).1.length ≤ 16384 ∧ (allB P Ls xs gs L).2 ≤ L := by
  induction xs generalizing gs L with
  | nil => exact ⟨h, Nat.le_refl _⟩
  | cons x r ih =>
    have h1 := lookB_ok (P := P) (Ls := Ls) (x := x) gs L h
    have h2 := ih _ (lookB P Ls gs L x).2 h1.1
    rw [allB_cons]
    exact ⟨h2.1, Nat.le_trans h2.2 h1.2⟩
end

end Go.Proofs.Ytngdolmmaiogiaa
