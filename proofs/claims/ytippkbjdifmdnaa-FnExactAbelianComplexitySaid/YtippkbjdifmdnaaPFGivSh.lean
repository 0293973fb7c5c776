/- Given for the print: a row of letters that a conversion has made is no row of its own in the kit's sense (its block bears a mark behind its cells): here is the weaker word for it that the walks of the library's sort need: its cells can be read and written. -/
import Derived.Test.YtippkbjdifmdnaaPFx0
import Derived.Sort.WalkB12
import Derived.Lib.SlicesMore
import Derived.Lib.OwnBridge
namespace Go.Proofs.Ytippkbjdifmdnaa.PF
open Go.RowKit Go.Lib Go.Sort Go.Proofs.YtippkbjdifmdnaaW.PrintWords Go.Proofs.YtippkbjdifmdnaaW.PrintLast Go.Proofs.YtippkbjdifmdnaaW.PrintMore
set_option linter.unusedVariables false
set_option linter.unusedSimpArgs false

def encB : Int → Value := Value.int .u8
namespace Hd

/-- The value is a row of letters whose block lies behind 'base': its cells are read and written freely. -/
def R (_d : Kd Int) (_e : Nat) (w : World) (base : Nat) (ok : Nat → Prop) (v : Value) (xs : List Int) : Prop :=
  (∀ k, v.ownBlock = some k → ok k) ∧ ∃ g cap, v = .slice (some ⟨g, 0, none⟩) xs.length cap ∧ base ≤ g ∧ g < w.heap.size ∧ xs.length ≤ cap ∧ xs.length ≤ 9223372036854775807 ∧ Holds encB w g 0 xs.toArray

section
variable {d : Kd Int} {e base g cap n : Nat} {w w1 : World} {ok ok' : Nat → Prop} {v : Value} {xs : List Int}

theorem R_mono (h : R d e w base ok v xs) (hok : ∀ k, ok k → ok' k) : R d e w base ok' v xs := ⟨fun k hk => hok k (h.1 k hk), h.2⟩
theorem R_tight (hE : d.E = []) (h : R d e w base ok v xs) : R d e w base (fun k => some k = v.ownBlock) v xs := ⟨fun k hk => hk.symm, h.2⟩
theorem R_reok (hE : d.E = []) (h : R d e w base ok v xs) (hok : ∀ k, v.ownBlock = some k → ok' k) : R d e w base ok' v xs := ⟨hok, h.2⟩
theorem R_below (h : R d e w base ok v xs) (hb : Below w.heap.size w w1) : R d e w1 base ok v xs := by
  obtain ⟨h0, g, cap, he, h1, h2, h3, h4, h5⟩ := h
  refine ⟨h0, g, cap, he, h1, Nat.lt_of_lt_of_le h2 hb.size, h3, h4, fun j hj => ?_⟩
  obtain ⟨c1, c2⟩ := h5 j hj
  have hk := hb.block g h2
  exact ⟨by simp only [World.cell?] at c1 ⊢; rw [hk]; exact c1, by simp only [World.frozen?] at c2 ⊢; rw [hk]; exact c2⟩
theorem R_alloc (h : R d e w base ok v xs) (o : Obj) : R d e (w.alloc o) base ok v xs := R_below h (below_alloc (Below.refl _ _) o)
theorem R_drew (h : R d e w base ok v xs) : R d e w.drew base ok v xs := R_below h (below_drew (Below.refl _ _))
theorem R_drewN (h : R d e w base ok v xs) (m : Nat) : R d e (w.drewN m) base ok v xs := R_below h (pw_below_drewN (Below.refl _ _) m)
theorem R_slice (h : R d e w base ok v xs) : ∃ A c, v = .slice A xs.length c := by
  obtain ⟨_, g, cap, he, _⟩ := h
  exact ⟨_, _, he⟩
theorem R_form (h : R d e w base ok v xs) (hp : 0 < xs.length) : ∃ g cap, v = .slice (some ⟨g, 0, none⟩) xs.length cap ∧ base ≤ g ∧ g < w.heap.size ∧ ∃ o, w.heap[g]? = some o := by
  obtain ⟨_, g, cap, he, h1, h2, _⟩ := h
  exact ⟨g, cap, he, h1, h2, _, Array.getElem?_eq_getElem h2⟩
theorem cell (h : Holds encB w g 0 xs.toArray) (j : Nat) (hj : j < xs.length) : w.cell? ⟨g, j, none⟩ = some (.int .u8 (xs.getD j 0)) ∧ w.frozen? ⟨g, j, none⟩ = false := by
  have h1 := h j (by simpa using hj)
  rw [Nat.zero_add] at h1
  refine ⟨?_, h1.2⟩
  rw [h1.1, getElem!_pos _ j (by simpa using hj)]
  simp [encB, List.getD_eq_getElem?_getD, List.getElem?_eq_getElem hj]
theorem C_of (h : Holds encB w g 0 xs.toArray) (hn : xs.length ≤ 9223372036854775807) : Kd.C (Kd.int .u8) w (some ⟨g, 0, none⟩) xs.length xs := by
  refine Kd.C_of_reads (d := (0 : Int)) (h1 := fun _ => rfl) ?_
  refine ⟨rfl, by omega, fun _ => ⟨_, rfl, fun j hj => ?_⟩⟩
  have h1 := (cell h j hj).1
  rw [add_plain]
  exact h1
theorem R_reads' {A : Option Addr} {c : Nat} (h : R (Kd.int .u8) e w base ok (.slice A n c) xs) : n = xs.length ∧ n ≤ c ∧ (Kd.int .u8).C w A xs.length xs := by
  obtain ⟨_, g, cap, he, h1, h2, h3, h4, h5⟩ := h
  injection he with e1 e2 e3
  subst e1 e2 e3
  exact ⟨rfl, h3, C_of h5 h4⟩
theorem R_celln (x0 : Int) (h : R (Kd.int .u8) e w base ok (.slice (some ⟨g, 0, none⟩) n cap) xs) (i : Int) (h0 : 0 ≤ i) (hi : i < n) : w.cell? ⟨g, i.toNat, none⟩ = some (.int .u8 (rdOf x0 xs i)) ∧ w.frozen? ⟨g, i.toNat, none⟩ = false := by
  obtain ⟨_, g', cap', he, h1, h2, h3, h4, h5⟩ := h
  injection he with e1 e2 e3
  injection e1 with e1
  injection e1 with e1
  subst e1 e2 e3
  have hj : i.toNat < xs.length := by omega
  have h6 := cell h5 i.toNat hj
  refine ⟨?_, h6.2⟩
  rw [h6.1]
  simp [rdOf, List.getD_eq_getElem?_getD, List.getElem?_eq_getElem hj]
theorem R_putn (h : R (Kd.int .u8) e w base ok (.slice (some ⟨g, 0, none⟩) n cap) xs) (i : Int) (x : Int) : R (Kd.int .u8) e (w.setCell ⟨g, i.toNat, none⟩ (.int .u8 x)) base ok (.slice (some ⟨g, 0, none⟩) n cap) (xs.set i.toNat x) := by
  obtain ⟨h0, g', cap', he, h1, h2, h3, h4, h5⟩ := h
  injection he with e1 e2 e3
  injection e1 with e1
  injection e1 with e1
  subst e1 e2 e3
  refine ⟨h0, g, cap, by rw [List.length_set], h1, by simpa using h2, by rw [List.length_set]; exact h3, by rw [List.length_set]; exact h4, fun j hj => ?_⟩
  have hj' : j < xs.length := by simpa using hj
  have h6 := cell h5 j hj'
  rw [Nat.zero_add, World.frozen?_setCell]
  refine ⟨?_, h6.2⟩
  rw [getElem!_pos _ j hj]
  by_cases hij : i.toNat = j
  · subst hij
    rw [World.cell?_setCell_same w _ _ h6.1]
    simp [encB]
  · rw [World.cell?_setCell_other w _ _ _ (by intro e; injection e with _ e2; exact hij e2), h6.1]
    simp [encB, List.getElem_set_ne hij, List.getD_eq_getElem?_getD, List.getElem?_eq_getElem hj']
end
end Hd

theorem qRh {d : Kd Int} {e base : Nat} {ok : Nat → Prop} {w W : World} {v : Value} {xs : List Int} (h : Hd.R d e w base ok v xs) (t : Aside0 (Hd.R d e w base ok v xs) → Hd.R d e W base ok v xs := by intro ab_; (with_reducible repeat (first | apply Hd.R_alloc | apply Hd.R_drewN | apply Hd.R_drew)); exact ab_.out) : Hd.R d e W base ok v xs := t ⟨h⟩

end Go.Proofs.Ytippkbjdifmdnaa.PF
