/- Slices of rows of cells (structs that hold nothing that lies elsewhere), read or the call's own; drawn regions in a round. -/
import Derived.Test.YtlkbkgghfhoggaaGreatDoorLo
import Derived.Test.YtlkbkgghfhoggaaGreatDoorHw1
import Derived.Test.YtlkbkgghfhoggaaGreatDoorKd
import Derived.Test.YtlkbkgghfhoggaaGreatDoorLz
import Derived.Maps.AppendAt
section
set_option linter.unusedVariables false
set_option linter.unusedSimpArgs false
namespace Go.Proofs.YtlkbkgghfhoggaaGreatDoor
open Go.RowKit
theorem fold_set (C : List Value) : ∀ (k off : Nat) (cells : Array Value), off + k + C.length ≤ cells.size →
    ((C.zipIdx k).foldl (fun (cs : Array Value) (x : Value × Nat) => cs.setIfInBounds (off + x.2) x.1) cells).size = cells.size ∧
    ∀ i : Nat, ((C.zipIdx k).foldl (fun (cs : Array Value) (x : Value × Nat) => cs.setIfInBounds (off + x.2) x.1) cells)[i]? = if off + k ≤ i ∧ i < off + k + C.length then C[i - (off + k)]? else cells[i]? := by
  induction C with
  | nil => intro k off cells _; exact ⟨rfl, fun i => by rw [if_neg (by rw [List.length_nil]; omega)]; rfl⟩
  | cons c C ih =>
    intro k off cells h
    rw [List.length_cons] at h
    have h2 := ih (k + 1) off (cells.setIfInBounds (off + k) c) (by rw [Array.size_setIfInBounds]; omega)
    rw [Array.size_setIfInBounds] at h2
    refine ⟨h2.1, fun i => ?_⟩
    show ((C.zipIdx (k + 1)).foldl _ (cells.setIfInBounds (off + k) c))[i]? = _
    rw [h2.2 i, List.length_cons]
    by_cases h1 : off + k = i
    · subst h1
      rw [if_neg (by omega), if_pos (by omega), Nat.sub_self, Array.getElem?_setIfInBounds_self_of_lt (by omega)]; rfl
    · by_cases h3 : off + (k + 1) ≤ i ∧ i < off + (k + 1) + C.length
      · rw [if_pos h3, if_pos (by omega), show i - (off + k) = i - (off + (k + 1)) + 1 by omega]; rfl
      · rw [if_neg h3, if_neg (by omega), Array.getElem?_setIfInBounds_ne h1]
def twoB (P : Program) (t n m : Nat) : Bool := match P.info? t, P.underlying t with
  | some it, some (.struct fields) => match it.zero, fields.toList.mapM (fun f => (P.info? f.type).map fun i => (f.offset, i.size)) with
    | some z, some places => Nat.beq z.cells.size (n + m) && (places == [(0, n), (n, m)])
    | _, _ => false
  | _, _ => false
theorem built_two {P : Program} {t n m : Nat} (h : twoB P t n m = true) {A B : List Value} (hA : A.length = n) (hB : B.length = m) :
    (P.built t [(0, .agg A.toArray), (1, .agg B.toArray)]).map Array.toList = some (A ++ B) := by
  unfold twoB at h
  unfold Program.built
  cases hi : P.info? t with
  | none => simp [hi] at h
  | some it =>
    cases hu : P.underlying t with
    | none => simp [hi, hu] at h
    | some d =>
      cases d <;> try (simp [hi, hu] at h; done)
      case struct fields =>
        cases hz : it.zero with
        | none => simp [hi, hu, hz] at h
        | some z =>
          cases hp : fields.toList.mapM (fun f => (P.info? f.type).map fun i => (f.offset, i.size)) with
          | none => simp [hi, hu, hz, hp] at h
          | some places =>
            simp only [hi, hu, hz, hp, Bool.and_eq_true] at h
            have hn := Nat.eq_of_beq_eq_true h.1
            obtain rfl : places = [(0, n), (n, m)] := by simpa using h.2
            subst hA hB
            have e1 := fold_set A 0 0 z.cells (by omega)
            have e2 := fold_set B 0 A.length ((A.zipIdx 0).foldl (fun (cs : Array Value) (x : Value × Nat) => cs.setIfInBounds (0 + x.2) x.1) z.cells) (by rw [e1.1]; omega)
            have c1 (L : List Value) : Value.cells (.agg L.toArray) = L.toArray := rfl
            have f1 (L : List Value) (off : Nat) (cs : Array Value) : (L.toArray.zipIdx.foldl (fun (cs : Array Value) (x : Value × Nat) => cs.setIfInBounds (off + x.2) x.1) cs) = (L.zipIdx 0).foldl (fun (cs : Array Value) (x : Value × Nat) => cs.setIfInBounds (off + x.2) x.1) cs := by
              rw [← Array.foldl_toList, Array.toList_zipIdx]
            simp only [hz, hp, Instr.fill, c1, List.size_toArray]
            have g0 : (([(0, A.length), (A.length, B.length)] : List (Nat × Nat)).toArray)[0]? = some (0, A.length) := rfl
            have g1 : (([(0, A.length), (A.length, B.length)] : List (Nat × Nat)).toArray)[1]? = some (A.length, B.length) := rfl
            rw [g0]
            simp only [g1]
            rw [if_neg (by simp; omega)]
            have s1 : (A.toArray.zipIdx.foldl (fun (cs : Array Value) (x : Value × Nat) => cs.setIfInBounds (0 + x.2) x.1) z.cells).size = z.cells.size := by rw [f1]; exact e1.1
            rw [if_neg (by
              rw [Bool.or_eq_true]; rintro (h | h)
              · simp at h
              · have := of_decide_eq_true h
                have s2 := s1
                omega)]
            simp only [Option.map_some, Option.some.injEq]
            apply List.ext_getElem?
            intro i
            rw [Array.getElem?_toList]
            have q1 := e2.2 i
            have q2 := e1.2 i
            rw [← f1 A 0 z.cells, ← f1 B A.length] at q1
            rw [← f1 A 0 z.cells] at q2
            refine q1.trans ?_
            rw [q2]
            rcases Nat.lt_or_ge i A.length with h1 | h1
            · rw [if_neg (by omega), if_pos (by omega), List.getElem?_append_left h1]; rfl
            · rw [List.getElem?_append_right h1]
              rcases Nat.lt_or_ge i (A.length + B.length) with h2 | h2
              · rw [if_pos (by omega)]; rfl
              · rw [if_neg (by omega), if_neg (by omega), Array.getElem?_eq_none (by omega), List.getElem?_eq_none (by omega)]
end Go.Proofs.YtlkbkgghfhoggaaGreatDoor
end
section
set_option linter.unusedVariables false
set_option linter.unusedSimpArgs false
namespace Go.Proofs.YtlkbkgghfhoggaaGreatDoor
open Go.RowKit
/-! ### rows -/
structure Rs {α : Type} (f : α → List Value) (sz : Nat) (w : World) (A : Option Addr) (L : List α) : Prop where
  len : ∀ s ∈ L, (f s).length = sz
  cell : L ≠ [] → ∃ b o, A = some ⟨b, o, none⟩ ∧ ∀ j u, (L.flatMap f)[j]? = some u → w.cell? ⟨b, o + j, none⟩ = some u
def Awr {α : Type} (S : Nat → Prop) (A : Option Addr) (L : List α) : Prop := L ≠ [] → ∀ x, A = some x → ¬ S x.block
section
variable {α : Type} {f : α → List Value} {sz : Nat} {w w' : World} {A : Option Addr} {L : List α} {S : Nat → Prop} {i j : Nat} {s : α} {u : Value}
theorem flat_length (h : ∀ s ∈ L, (f s).length = sz) : (L.flatMap f).length = L.length * sz := by
  induction L with
  | nil => simp
  | cons s L ih =>
    rw [List.flatMap_cons, List.length_append, h s (List.mem_cons_self ..), ih (fun t ht => h t (List.mem_cons_of_mem _ ht)), List.length_cons, Nat.add_mul]; omega
theorem flat_get (h : ∀ s ∈ L, (f s).length = sz) (hi : L[i]? = some s) (hj : (f s)[j]? = some u) : (L.flatMap f)[i * sz + j]? = some u := by
  have hjs : j < sz := by rw [← h s (List.mem_of_getElem? hi)]; exact (List.getElem?_eq_some_iff.1 hj).1
  induction L generalizing i with
  | nil => cases hi
  | cons s' L ih =>
    rw [List.flatMap_cons]
    have h0 := h s' (List.mem_cons_self ..)
    cases i with
    | zero => cases hi; rw [Nat.zero_mul, Nat.zero_add, List.getElem?_append_left (by omega)]; exact hj
    | succ i =>
      have e : (i + 1) * sz = i * sz + sz := Nat.succ_mul i sz
      rw [List.getElem?_append_right (by omega), show (i + 1) * sz + j - (f s').length = i * sz + j by omega]; exact ih (fun t ht => h t (List.mem_cons_of_mem _ ht)) hi
theorem Rs.keptS (h : Rs f sz w A L) (k : Kp S w w') (hn : Awr S A L) : Rs f sz w' A L := ⟨h.len, fun hl => by
  obtain ⟨b, o, rfl, hc⟩ := h.cell hl
  exact ⟨b, o, rfl, fun j u hu => k.cell (hc j u hu) (hn hl ⟨b, o, none⟩ rfl)⟩⟩
theorem Rs.keptNo (h : Rs f sz w A L) (k : Kp No w w') : Rs f sz w' A L := h.keptS k (fun _ _ _ e => e)
theorem Rs.draw (h : Rs f sz w A L) : Rs f sz w.drew A L := ⟨h.len, h.cell⟩
theorem Rs.nil (w : World) (A : Option Addr) : Rs f sz w A [] := ⟨fun _ h => (by cases h), fun h => absurd rfl h⟩
theorem Rs.at (h : Rs f sz w A L) (hi : L[i]? = some s) : ∃ b o, A = some ⟨b, o, none⟩ ∧ ∀ j u, (f s)[j]? = some u → w.cell? ⟨b, o + (i * sz + j), none⟩ = some u := by
  obtain ⟨b, o, e, hc⟩ := h.cell (by intro e; subst e; cases hi)
  exact ⟨b, o, e, fun j u hu => hc _ u (flat_get h.len hi hu)⟩
theorem Rs.adr (h : Rs f sz w A L) (hi : L[i]? = some s) : A = some (adr A) ∧ ∀ j u, (f s)[j]? = some u → w.cell? ((Go.Proofs.YtlkbkgghfhoggaaGreatDoor.adr A).add (i * sz + j)) = some u := by
  obtain ⟨b, o, rfl, hc⟩ := h.at hi
  exact ⟨rfl, fun j u hu => by show w.cell? ((⟨b, o, none⟩ : Addr).add _) = _; rw [add_at]; exact hc j u hu⟩
theorem Rs.adr_add (h : Rs f sz w A L) (hi : L[i]? = some s) (a b : Nat) : ((Go.Proofs.YtlkbkgghfhoggaaGreatDoor.adr A).add a).add b = (Go.Proofs.YtlkbkgghfhoggaaGreatDoor.adr A).add (a + b) := by
  obtain ⟨b', o, rfl, hc⟩ := h.at hi
  show ((⟨b', o, none⟩ : Addr).add a).add b = (⟨b', o, none⟩ : Addr).add (a + b)
  rw [add_at, add_at, add_at, Nat.add_assoc]
theorem Rs.one {p : Nat} {t : TypeId} (h : Bk w p (f s) t) (hs : (f s).length = sz) : Rs f sz w (some ⟨p, 0, none⟩) [s] :=
  ⟨fun u hu => by rw [List.mem_singleton.1 hu]; exact hs, fun _ => ⟨p, 0, rfl, fun j u hu => by rw [Nat.zero_add]; exact h.cell (by simpa using hu)⟩⟩
end
section
variable {α : Type} {f : α → List Value} {sz : Nat} {P : Program} {n : Nat} {l : List (Nat × Value)} {w : World} {x y : Operand} {t e : TypeId} {k : IntKind} {A : Option Addr} {L : List α} {m : Nat} {s : α}
theorem pu_indexAddrR {len c : Nat} {i : Int} (hS : Rs f sz w A L) (hu : P.underlying t = some (.slice e)) (hs : sizeB P e sz = true) (hx : lk l x = some (.slice A len c)) (hl : L.length = len) (hy : lk l y = some (.int k i)) (hi : i = (m : Int)) (hm : L[m]? = some s) :
    Pu P (.indexAddr t x y) l w (.pointer (some ((adr A).add (m * sz)))) := by
  have h0 := (hS.adr hm).1
  have hlt := (List.getElem?_eq_some_iff.1 hm).1
  exact pu_indexAddrS (w := w) (q := adr A) (c := c) hu hs (by rw [← h0]; exact hx) hy hi (hl ▸ hlt)
theorem pu_loadRow2 (hS : Rs f sz w A L) (hm : L[m]? = some s) (hr : isRowB P t = true) (hs : sizeB P t sz = true) (hx : lk l x = some (.pointer (some ((adr A).add (m * sz))))) : Pu P (.load t x) l w (.agg (f s).toArray) := by
  obtain ⟨b, o, rfl, hc⟩ := hS.at hm
  refine pu_loadRange (C := f s) hr (by rw [hS.len s (List.mem_of_getElem? hm)]; exact hs) (p := b) (o := o + m * sz) ?_ (fun j v hv => by rw [Nat.add_assoc]; exact hc j v hv)
  rw [hx]; show some (Value.pointer (some ((⟨b, o, none⟩ : Addr).add (m * sz)))) = _; rw [add_at]
end
/-! ### rows of the call's own -/
structure Ro {α : Type} (f : α → List Value) (sz : Nat) (T : TypeId) (w : World) (base : Nat) (v : Value) (L : List α) : Prop where
  own : w.ownsRow base T sz v L.length (L.flatMap f)
  len : ∀ s ∈ L, (f s).length = sz
  one : ∀ s ∈ L, ∀ u ∈ f s, u.oneCell' = true
section
variable {α : Type} {f : α → List Value} {sz : Nat} {T : TypeId} {w w' w0 : World} {base p : Nat} {v : Value} {L : List α} {S : Nat → Prop}
theorem Ro.nil (w : World) (base : Nat) : Ro f sz T w base (.slice none 0 0) [] := ⟨World.ownsRow_nil w base T sz, fun _ h => (by cases h), fun _ h => (by cases h)⟩
theorem Ro.lt (h : Ro f sz T w base v L) : ∀ b, v.ownBlock = some b → base ≤ b ∧ b < w.heap.size := h.own.lt
theorem Ro.kept (h : Ro f sz T w base v L) (k : Kp S w w') (hn : ∀ b, v.ownBlock = some b → ¬ S b) : Ro f sz T w' base v L := by
  refine ⟨⟨h.own.1, ?_⟩, h.len, h.one⟩
  rcases h.own.2 with h1 | ⟨g, cap, cur, rfl, hb, hh, hr⟩
  · exact .inl h1
  · exact .inr ⟨g, cap, cur, rfl, hb, k.blk hh (hn g rfl), hr⟩
theorem Ro.keptNo (h : Ro f sz T w base v L) (k : Kp No w w') : Ro f sz T w' base v L := h.kept k (fun _ _ e => e)
theorem Ro.on (h : Ro f sz T w base v L) (k : Kp (On p) w w') (hp : p < base) : Ro f sz T w' base v L := h.kept k (fun b hb hc => by have := (h.lt b hb).1; have : b = p := hc; omega)
theorem Ro.onN (h : Ro f sz T w base v L) (k : Kp (On p) w w') (h0 : Ro f sz T w0 base v L) (hp : w0.heap.size ≤ p) : Ro f sz T w' base v L := h.kept k (fun b hb hc => by have := (h0.lt b hb).2; have : b = p := hc; omega)
theorem Ro.onE {q : Nat} (h : Ro f sz T w base v L) (k : Kp (On q) w w') (hn : ∀ b, v.ownBlock = some b → b ≠ q) : Ro f sz T w' base v L := h.kept k hn
theorem Ro.top (h : Ro f sz T w base v L) : ∀ b, v.ownBlock = some b → b < w.heap.size := fun b hb => (h.lt b hb).2
theorem Ro.low {b2 : Nat} (h : Ro f sz T w base v L) (hb : b2 ≤ base) : Ro f sz T w b2 v L := by
  refine ⟨⟨h.own.1, ?_⟩, h.len, h.one⟩
  rcases h.own.2 with h1 | ⟨g, cap, cur, rfl, h2, hr⟩
  · exact .inl h1
  · exact .inr ⟨g, cap, cur, rfl, Nat.le_trans hb h2, hr⟩
theorem Ro.draw (h : Ro f sz T w base v L) : Ro f sz T w.drew base v L := ⟨h.own, h.len, h.one⟩
theorem Ro.le {A : Option Addr} {n c : Nat} (h : Ro f sz T w base (.slice A n c) L) : L.length = n ∧ L.length ≤ c := by
  rcases h.own.2 with ⟨e, hn⟩ | ⟨g, cap, cur, e, _, _, hn, _⟩
  · injection e with e1 e2 e3; omega
  · injection e with e1 e2 e3; subst e2 e3; exact ⟨rfl, hn⟩
theorem Ro.rs {A : Option Addr} {n c : Nat} (h : Ro f sz T w base (.slice A n c) L) : Rs f sz w A L := by
  refine ⟨h.len, fun hl => ?_⟩
  rcases h.own.2 with ⟨e, hn⟩ | ⟨g, cap, cur, e, hb, hh, hn, _, hcs, ht⟩
  · exact absurd (List.eq_nil_of_length_eq_zero hn) hl
  · injection e with e1 e2 e3
    refine ⟨g, 0, e1, fun j u hu => ?_⟩
    have hc : cur[j]? = some u := by
      rw [← ht, List.getElem?_take] at hu
      split at hu
      · simpa using hu
      · cases hu
    rw [Nat.zero_add]
    simp [World.cell?, hh, hc]
theorem Ro.cells (h : Ro f sz T w base v L) {g : Nat} (hg : v.ownBlock = some g) : ∃ o : Obj, w.heap[g]? = some o ∧ o.isCells = true := by
  rcases h.own.2 with ⟨rfl, _⟩ | ⟨g', cap, cur, rfl, _, hh, _⟩
  · cases hg
  · cases hg; exact ⟨_, hh, rfl⟩
theorem Ro.bw {B : World} {B0 : Nat} (h : Ro f sz T w base v L) (b : Bw B0 w B) : Ro f sz T B base v L := by
  obtain ⟨S', k, hS⟩ := b
  refine h.kept k fun g hg hs => ?_
  obtain ⟨o1, h1, h2⟩ := h.cells hg
  obtain ⟨_, o, h3, h4⟩ := hS g hs
  rw [h1] at h3; cases h3; rw [h2] at h4; cases h4
/-- Such a slice beside a block of another type. -/
theorem Ro.neT {A : Option Addr} {k c : Nat} {t : TypeId} {M : List Value} (h : Ro f sz T w base (.slice A k c) L) (hb : Bk w p M t) (ht : (t == T) = false) : ∀ b, (Value.slice A k c).ownBlock = some b → b ≠ p := fun b e1 e2 => by
  subst e2
  rcases h.own.2 with ⟨e, _⟩ | ⟨g, cap, cur, e, _, hh, _⟩
  · rw [e] at e1; cases e1
  · rw [e] at e1; cases e1
    have := hb
    unfold Bk at this
    rw [hh] at this
    injection this with this
    injection this with _ h2 _
    rw [h2] at ht; simp at ht
end
structure Apr {α : Type} (f : α → List Value) (sz : Nat) (T : TypeId) (w : World) (base : Nat) (v : Value) (L : List α) (A : Option Addr) (c : Nat) (w' : World) : Prop where
  ob : Ro f sz T w' base (.slice A L.length c) L
  kpo : Kp (fun i => v.ownBlock = some i) w w'
  own : (Value.slice A L.length c).ownBlock = v.ownBlock ∨ (Value.slice A L.length c).ownBlock = some w.heap.size
theorem Apr.kp {α : Type} {f : α → List Value} {sz : Nat} {T : TypeId} {w w' : World} {base c : Nat} {v : Value} {L M : List α} {A : Option Addr} (h : Apr f sz T w base v L A c w') (hv : Ro f sz T w base v M) : Kp (fun i => base ≤ i) w w' := h.kpo.mono (fun i hi => (hv.lt i hi).1)
section
variable {α : Type} {f : α → List Value} {sz bytes : Nat} {T TS : TypeId} {z : Value} {n : Nat} {l : List (Nat × Value)} {w : World} {d? : Option Tmp} {ty : TypeId} {pos : String} {af : Array Edge} {g? : Option (Nat × Bool)} {x y : Operand} {A B : Option Addr} {L M : List α} {c c' k k' base : Nat}
/-- append of rows that lie somewhere, onto a slice of the call's own. -/
theorem lo_appR (hu : Tryz.prog.underlying TS = some (.slice T)) (hinfo : (Tryz.prog.info? T).map (fun i => (i.zero, i.size, i.bytes)) = some (some z, sz, bytes)) (hzc : z.cells.size = sz) (hsz : 0 < sz) (h : Ro f sz T w base (.slice A k c) L) (hk : L.length = k) (hx : lk l x = some (.slice A k c))
    (hy : lk l y = some (.slice B k' c')) (hk' : M.length = k') (hB : Rs f sz w B M) (hone : ∀ s ∈ M, ∀ u ∈ f s, u.oneCell' = true) (hp : 0 < M.length) (hlen : (L.length + M.length) * bytes ≤ 1000000000) (hl2 : L.length + M.length ≤ 1000000000) (hbase : base ≤ w.heap.size) :
    Lo Tryz.prog ⟨d?, .call ⟨.builtin .append, #[x, y], #[TS, TS]⟩, ty, pos, af, g?⟩ n l w (fun v w' => ∃ A' c', v = .slice A' (L ++ M).length c' ∧ Apr f sz T w base (.slice A k c) (L ++ M) A' c' w') := by
  obtain ⟨b, o2, rfl, hc⟩ := hB.cell (List.length_pos_iff.1 hp)
  subst hk hk'
  obtain ⟨i, hi, hzz⟩ := Option.map_eq_some_iff.1 hinfo
  simp only [Prod.mk.injEq] at hzz
  obtain ⟨v', w', r, r1, r2, _, r4⟩ := run_append_own_at (P := Tryz.prog) w base TS ty T i z sz bytes hu hi hzz.1 hzz.2.1 hzz.2.2 hzc hsz (.slice A L.length c) L.length (L.flatMap f) h.own ⟨b, o2, none⟩ M.length c' (M.flatMap f) (flat_length hB.len)
    (fun j u hu => by rw [add_at]; exact hc j u hu) (fun u hu => by obtain ⟨s, hs, hu⟩ := List.mem_flatMap.1 hu; exact hone s hs u hu) (by unfold maxLen; omega) (by omega) hbase
  obtain ⟨A', c2, rfl⟩ : ∃ A' c2, v' = .slice A' (L ++ M).length c2 := by
    rcases r1.2 with ⟨_, e⟩ | ⟨g, cap, cur, e, _⟩
    · omega
    · exact ⟨_, _, by rw [e, List.length_append]⟩
  refine lo_run (v := .slice A' (L ++ M).length c2) (w' := w') (fun a ha => ?_) ⟨A', c2, rfl, ⟨by rw [List.flatMap_append]; rw [List.length_append] at r1 ⊢; exact r1, fun s hs => (List.mem_append.1 hs).elim (h.len s) (hB.len s), fun s hs => (List.mem_append.1 hs).elim (h.one s) (hone s)⟩, (Kp.refl _ w).grown r2 (fun b hb => .inl hb), r4⟩
  unfold execOp
  simp only [resolve, invoke, builtin, Sem.run_bind, Sem.run_pure, Result.andThen_ok, List.map_toArray, List.map_cons, List.map_nil, ha.eval hx, ha.eval hy, r]
end
/-! ### a slice of one row, written out -/
def oneRowB (P : Program) (e n : Nat) : Bool := match P.info? e with
  | some i => match i.zero with
    | some z => Nat.beq i.size n && Nat.beq z.cells.size n && Nat.blt 0 n && Nat.ble n 65536
    | none => false
  | none => false
theorem lit_one {P : Program} {e n : Nat} {C : List Value} (h : oneRowB P e n = true) (hC : C.length = n) : litL P e 1 [(0, .agg C.toArray)] = some C := by
  unfold oneRowB at h
  unfold litL
  cases hi : P.info? e with
  | none => simp [hi] at h
  | some i =>
    cases hz : i.zero with
    | none => simp [hi, hz] at h
    | some z =>
      simp only [hi, hz, Bool.and_eq_true] at h
      obtain ⟨⟨⟨h1, h2⟩, h3⟩, h4⟩ := h
      have h1 := Nat.eq_of_beq_eq_true h1
      have h4 := Nat.le_of_ble_eq_true h4
      have h3 : 0 < n := Nat.le_of_ble_eq_true h3
      simp only [hi, hz]
      rw [if_neg (by rw [h1]; omega), if_neg (by rw [h1]; omega)]
      have c1 : Value.cells (.agg C.toArray) = C.toArray := rfl
      simp only [Instr.fill, c1, List.size_toArray]
      have hm : ((Array.range (1 * i.size)).map (z.cells[· % z.cells.size]!)).size = n := by simp [h1]
      rw [if_neg (by rw [Bool.or_eq_true]; rintro (h | h)
                     · simp [hC, h1] at h
                     · have := of_decide_eq_true h; omega)]
      generalize ((Array.range (1 * i.size)).map (z.cells[· % z.cells.size]!)) = Z at hm
      have e1 := fold_set C 0 (0 * i.size) Z (by omega)
      have f1 : C.toArray.zipIdx.foldl (fun (cs : Array Value) (x : Value × Nat) => cs.setIfInBounds (0 * i.size + x.2) x.1) Z = (C.zipIdx 0).foldl (fun (cs : Array Value) (x : Value × Nat) => cs.setIfInBounds (0 * i.size + x.2) x.1) Z := by rw [← Array.foldl_toList, Array.toList_zipIdx]
      simp only [Option.map_some, Option.some.injEq]
      apply List.ext_getElem?
      intro j
      rw [Array.getElem?_toList]
      refine (congrArg (fun q : Array Value => q[j]?) f1).trans ((e1.2 j).trans ?_)
      by_cases hj : j < n
      · rw [if_pos (by omega)]; congr 1; omega
      · rw [if_neg (by omega), Array.getElem?_eq_none (by omega), List.getElem?_eq_none (by omega)]
/-- A struct of a number and a row. -/
theorem built_numrow {P : Program} {t n : Nat} (h : twoB P t 1 n = true) {v : Value} (hv : v.cells = #[v]) {B : List Value} (hB : B.length = n) : (P.built t [(0, v), (1, .agg B.toArray)]).map Array.toList = some (v :: B) := by
  have e : P.built t [(0, v), (1, .agg B.toArray)] = P.built t [(0, .agg [v].toArray), (1, .agg B.toArray)] := by
    unfold Program.built
    simp only [Instr.fill, hv, show Value.cells (.agg [v].toArray) = #[v] from rfl]
  rw [e]; exact built_two h rfl hB
/-! ### a slice as an array -/
section
variable {P : Program} {n : Nat} {l : List (Nat × Value)} {w : World} {x : Operand} {t e : TypeId}
theorem pu_loadBs {len : Nat} {A : Option Addr} {X : List Nat} (hS : Bs w A X) (hr : isRowB P t = true) (hs : sizeB P t len = true) (hl : X.length = len) (h0 : 0 < len) (hx : lk l x = some (.pointer A)) : Pu P (.load t x) l w (.agg (u8s X).toArray) := by
  obtain ⟨b, o, rfl, hc⟩ := hS.cell (by intro e; subst e; simp at hl; omega)
  refine pu_loadRange (C := u8s X) hr (by rw [u8s_length, hl]; exact hs) hx (fun j v hv => ?_)
  simp only [u8s, List.getElem?_map, Option.map_eq_some_iff] at hv
  obtain ⟨q, hq, rfl⟩ := hv
  exact hc j q hq
theorem pu_toArr {len k c : Nat} {A : Option Addr} (hu : P.underlying t = some (.array len e)) (hx : lk l x = some (.slice A k c)) (hk : len ≤ k) : Pu P (.sliceToArrayPointer t x) l w (.pointer A) := fun n B ha d ty pos af g => by
  unfold execOp
  simp only [ha.eval hx]
  have : ¬ k < len := by omega
  simp [Instr.arrayAt, run_underlying hu, this]
end
/-! ### drawn regions in a round -/
section
variable {r : Option Nat} {P : Program} {Q : Exit → Act → World → Prop} {n : Nat} {l : List (Nat × Value)} {w : World} {ops : Array Oper}
theorem wpOps_wf {m : Nat} (hd : ops.toList.all noDefer = true) (hQ : ¬ LetsOut Q) : ∀ (order : List Nat) (a : Act) (w : World), wpOps P ops Q order a w → wpOpsIn (Wf r) m P ops Q order a w
  | [], a, w, h => h
  | i :: rest, a, w, h => by
    unfold wpOps at h
    unfold wpOpsIn
    cases ho : ops[i]? with
    | none => simp only [ho] at h ⊢; exact wpOps_wf hd hQ rest a w h
    | some o =>
      simp only [ho] at h ⊢
      have hno : noDefer o = true := List.all_eq_true.1 hd o (by rw [← Array.getElem?_toList] at ho; exact List.mem_of_getElem? ho)
      split
      · rename_i hw
        rw [if_pos hw] at h
        rcases h with h | h
        · exact oper_wf hno (Oper.wp_mono (fun a w hh => wpOps_wf hd hQ rest a w hh) h)
        · exact absurd h.2 hQ
      · rename_i hw
        rw [if_neg hw] at h
        exact ⟨fun _ _ => trivial, wpOps_wf hd hQ rest _ _ h⟩
theorem Cr_any {id : Nat} (hd : ops.toList.all noDefer = true) (hQ : ¬ LetsOut Q) (hm : P.follows .mixedOrders = true) (h : ∀ a, St n l a → wpAny P .any ops Q ops.size (Array.replicate ops.size false) a w.drew) : Cr r P (.region id ops true) Q n l w := fun m a ha =>
  wpIn_region_draw fun t => by
    simp only [Region.schedule, hm, Bool.true_or, if_true]
    exact wpOps_wf hd hQ _ _ _ (wpAny_sound ops.size t _ a _ (h a ha))
theorem Zr_begin {id : Nat} (hd : ops.toList.all noDefer = true) (hQ : ¬ LetsOut Q) (S : World → Prop) (z fuel : Nat) (hf : ops.size = fuel) (hm : P.follows .mixedOrders = true) (hS : S w.drew) (h : ∀ w', Kp No w w' → S w' → Zd P ops Q S z fuel (Array.replicate fuel false) n l w') : Cr r P (.region id ops true) Q n l w :=
  Cr_any hd hQ hm fun a ha => by
    subst hf
    exact Zw.any _ _ _ _ (h w.drew ((Kp.refl No w).drew) hS a ha hS)
end
end Go.Proofs.YtlkbkgghfhoggaaGreatDoor
end
