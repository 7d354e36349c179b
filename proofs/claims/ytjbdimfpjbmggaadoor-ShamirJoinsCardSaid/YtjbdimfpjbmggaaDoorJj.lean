/- The body of ShamirJoins: all kinds of parts. -/
import Derived.Test.YtjbdimfpjbmggaaDoorJb
import Derived.Test.YtjbdimfpjbmggaaDoorJo
namespace Go.Proofs.YtjbdimfpjbmggaaDoor
open Go.RowKit Gm
theorem shamirJoins_ (A : Option Addr) (L : List Shr) (c : Nat) (ka : Int) (hka : (Lit.int .i64 ka).wf = true) (nn : Int) (hnn : (Lit.int .i64 nn).wf = true) (ge : Nat) (hge : ge < 4294967296) (ix : Nat) (hix : ix < 256) (w : World) (HS : Ss w A L) (hc : L.length ≤ c) (hcm : c ≤ maxLen) (hG : Gt w) :
    Ret Tryd.prog 6 #[.slice A L.length c, .agg ([.int .i64 ka, .int .i64 nn, .int .u32 (ge : Int)] : List Value).toArray, .int .u8 (ix : Int)] w (fun v w' => v = .bool true ∧ Kp No w w') := by
  have hbig : L.length < 9223372036854775808 := by have := hcm; unfold maxLen at this; omega
  by_cases hP : 2 ≤ ka ∧ ka ≤ nn ∧ nn ≤ 255
  · obtain ⟨q, rfl⟩ : ∃ q : Nat, ka = ((q + 1 : Nat) : Int) := ⟨(ka - 1).toNat, by omega⟩
    obtain ⟨n, rfl⟩ : ∃ n : Nat, nn = (n : Int) := ⟨nn.toNat, by omega⟩
    have hP' : 2 ≤ q + 1 ∧ q + 1 ≤ n ∧ n ≤ 255 := by omega
    by_cases hl : q + 1 ≤ L.length
    · by_cases hg : ∀ s ∈ L.take (q + 1), s.gen = ge
      · by_cases hs : ShOk (L.take (q + 1))
        · obtain ⟨t, et⟩ : ∃ t, (L.take (q + 1))[0]? = some t := ⟨_, List.getElem?_eq_getElem (by rw [List.length_take]; omega)⟩
          exact shamirJoins_ok A L c q n t.X.length ge hge ix hix w HS hc hcm hG ⟨hP', hl, good_ok hg hs et⟩
        · exact shamirJoins_bad A L c ((q + 1 : Nat) : Int) (n : Int) 12 ge hge ix hix w HS hc hcm hG (fun b A' c' w' h1 h2 => shamir_combine_share b A' L c' q n ge w' h1 ⟨hP', ⟨hl, h2, hbig⟩, hge, hg, hs⟩) (fun x w' h1 => ref03_combine_share A L c q n ge x w' h1 ⟨hP', ⟨hl, hc, hbig⟩, hge, hg, hs⟩) (fun b A' c' w' h1 h2 h3 => shamir_at_share b A' L c' q n ge ix w' h1 ⟨⟨hP', ⟨hl, h2, hbig⟩, hge, hg, hs⟩, hix, h3.1, by omega⟩)
      · exact shamirJoins_bad A L c ((q + 1 : Nat) : Int) (n : Int) 14 ge hge ix hix w HS hc hcm hG (fun b A' c' w' h1 h2 => shamir_combine_gen b A' L c' q n ge w' h1 ⟨hP', ⟨hl, h2, hbig⟩, hge, hg⟩) (fun x w' h1 => ref03_combine_gen A L c q n ge x w' h1 ⟨hP', ⟨hl, hc, hbig⟩, hge, hg⟩) (fun b A' c' w' h1 h2 h3 => shamir_at_gen b A' L c' q n ge ix w' h1 ⟨⟨hP', ⟨hl, h2, hbig⟩, hge, hg⟩, hix, h3.1, by omega⟩)
    · exact shamirJoins_bad A L c ((q + 1 : Nat) : Int) (n : Int) 2 ge hge ix hix w HS hc hcm hG (fun b A' c' w' h1 h2 => shamir_combine_short b A' L c' q n ge w' h1 ⟨hP', by omega, hge, hbig⟩) (fun x w' h1 => ref03_combine_short A L c q n ge x w' h1 ⟨hP', by omega, hge, hbig⟩) (fun b A' c' w' h1 h2 h3 => shamir_at_short b A' L c' q n ge ix w' h1 ⟨⟨hP', by omega, hge, hbig⟩, hix, h3.1, by omega⟩)
  · exact shamirJoins_bad A L c ka nn 1 ge hge ix hix w HS hc hcm hG (fun b A' c' w' h1 h2 => shamir_combine_plan b A' L c' ka nn ge w' h1 ⟨hP, hge, hbig⟩) (fun x w' h1 => ref03_combine_plan A L c ka nn ge x w' h1 ⟨hP, hge, hbig⟩) (fun b A' c' w' h1 h2 h3 => shamir_at_plan b A' L c' ka nn ge ix w' h1 ⟨⟨hP, hge, hbig⟩, hix, h3.1, h3.2⟩)
end Go.Proofs.YtjbdimfpjbmggaaDoor
