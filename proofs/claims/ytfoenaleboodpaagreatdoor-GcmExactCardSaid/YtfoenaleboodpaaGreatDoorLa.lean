/- append and copy on slices of bytes, by explicit steps. -/
import Derived.Test.YtfoenaleboodpaaGreatDoorLq
import Derived.Laws.CopyOwn
set_option linter.unusedVariables false
set_option linter.unusedSimpArgs false
namespace Go.Proofs.YtfoenaleboodpaaGreatDoor
open Go.RowKit
theorem Bs.ofBk {w : World} {p n t : Nat} {X : List Nat} (h : Bk w p (u8s X) t) (b : By n X) : Bs w (some ⟨p, 0, none⟩) X :=
  ⟨b.2, fun _ => ⟨p, 0, rfl, fun i v hi => by rw [Nat.zero_add]; exact h.cell (u8s_get hi)⟩⟩
theorem Bs.ofBk' {w : World} {p t : Nat} {X : List Nat} (h : Bk w p (u8s X) t) (b : ∀ n ∈ X, n < 256) : Bs w (some ⟨p, 0, none⟩) X :=
  ⟨b, fun _ => ⟨p, 0, rfl, fun i v hi => by rw [Nat.zero_add]; exact h.cell (u8s_get hi)⟩⟩
theorem Ob.bs {w : World} {base n c : Nat} {A : Option Addr} {X : List Nat} (h : Ob w base (.slice A n c) X) : Bs w A X := by
  obtain ⟨A', c', e, hb, _⟩ := h.reads
  injection e with e1 e2 e3
  rw [e1]; exact hb
theorem Ob.le {w : World} {base n c : Nat} {A : Option Addr} {X : List Nat} (h : Ob w base (.slice A n c) X) : X.length = n ∧ X.length ≤ c := by
  rcases h.own.2 with ⟨e, hn⟩ | ⟨g, cap, cur, e, _, _, hn, _⟩
  · injection e with e1 e2 e3; omega
  · injection e with e1 e2 e3; subst e2 e3; exact ⟨rfl, hn⟩
theorem Ob.on {w w' : World} {base p : Nat} {v : Value} {X : List Nat} (h : Ob w base v X) (k : Kp (On p) w w') (hp : p < base) : Ob w' base v X := h.kept k (fun b hb hc => by have := (h.lt b hb).1; have : b = p := hc; omega)
theorem Ob.onN {w w' w0 : World} {base base' p : Nat} {v : Value} {X Y : List Nat} (h : Ob w base v X) (k : Kp (On p) w w') (h0 : Ob w0 base' v Y) (hp : w0.heap.size ≤ p) : Ob w' base v X := h.kept k (fun b hb hc => by have := (h0.lt b hb).2; have : b = p := hc; omega)
theorem Ob.top {w : World} {base : Nat} {v : Value} {X : List Nat} (h : Ob w base v X) : ∀ b, v.ownBlock = some b → b < w.heap.size := fun b hb => (h.lt b hb).2
theorem Ob.past {w w' : World} {base b2 : Nat} {v : Value} {X : List Nat} (h : Ob w base v X) (hl : ∀ b, v.ownBlock = some b → b < b2) (k : Kp (fun i => b2 ≤ i) w w') : Ob w' base v X := h.kept k (fun b hb hc => by have := hl b hb; have hc' : b2 ≤ b := hc; omega)
theorem Ob.draw {w : World} {base : Nat} {v : Value} {X : List Nat} (h : Ob w base v X) : Ob w.drew base v X := ⟨h.own, h.byte⟩
/-- The bytes X lie in a slice of the call's own, behind base; nothing below base is touched. -/
structure Apd (w : World) (base : Nat) (X : List Nat) (A : Option Addr) (c : Nat) (w' : World) : Prop where
  ob : Ob w' base (.slice A X.length c) X
  le : X.length ≤ c
  kp : Kp (fun i => base ≤ i) w w'
section
variable {n : Nat} {l : List (Nat × Value)} {w : World} {d? : Option Tmp} {ty : TypeId} {pos : String} {af : Array Edge} {g? : Option (Nat × Bool)} {x y : Operand} {A B : Option Addr} {X Y : List Nat} {c c' k k' base : Nat}
theorem lo_app (h : Ob w base (.slice A k c) X) (hk : X.length = k) (hx : lk l x = some (.slice A k c)) (hy : lk l y = some (.slice B k' c')) (hk' : Y.length = k') (hB : Bs w B Y) (hlen : X.length + Y.length ≤ 70368744177664) (hbase : base ≤ w.heap.size) :
    Lo Tryz.prog ⟨d?, .call ⟨.builtin .append, #[x, y], #[22, 22]⟩, ty, pos, af, g?⟩ n l w (fun v w' => ∃ A' c', v = .slice A' (X ++ Y).length c' ∧ Apd w base (X ++ Y) A' c' w') := fun a ha K Q hK => by
  subst hk'
  refine wp_app x y rfl base (.slice A k c) X Y (ha.eval hx) h B c' (ha.eval hy) hB hlen hbase (fun v' w' h1 h2 h3 => ?_)
  obtain ⟨A', c2, rfl, h4, _⟩ := h1.reads
  exact hK _ _ ⟨A', c2, rfl, h1, h1.le.2, (Kp.refl _ w).grown h2 (fun b hb => .inl (h.lt b hb).1)⟩
end
end Go.Proofs.YtfoenaleboodpaaGreatDoor
