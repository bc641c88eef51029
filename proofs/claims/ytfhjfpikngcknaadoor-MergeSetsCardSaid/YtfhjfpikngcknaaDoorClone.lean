/- Contracts: slices.Clone at four types. -/
import Derived.Test.YtfhjfpikngcknaaDoorMake
namespace Go.Proofs.YtfhjfpikngcknaaDoor
open Go Go.RowKit Go.Wk
attribute [local irreducible] W RL Does thenQ blockQ retQ Calls Pu Stp RD Qy Ay

theorem cloneR_spec (A : Option Addr) (c : Nat) (x : List DRule) (w : World) (hA : RdSl w A c DRule.enc 11 x) (hn : x.length ≤ 1000000) :
    Does Tryd.prog 19 [.slice A x.length c] w (NewSl 46 11 DRule.enc x) := by
  refine Does_of_W Tryd.func19 rfl rfl rfl rfl ?_
  repeat (first | (apply RL_st; rfl; (apply Stp_buildSlice0; intro bk)) | refine walk ?_)
  refine W_cond rfl (fun h1 => ?_) (fun h1 => ?_)
  · obtain rfl := hA.none h1
    refine W_nil 46 11 ?_
    repeat (first | (apply RL_st; rfl; (apply Stp_buildSlice0; intro bk)) | refine walk ?_)
    exact ret_1 _ [.row (.slice none 0 0) 46 11 0 []] (.tmp rfl) (by first | exact .refl _ | focus repeat (first | exact SubO.nil | (apply SubO.cons; focus repeat' constructor))) ⟨none, 0, rfl, rfl⟩
  repeat (first | (apply RL_st0; (apply Stp_append0; rfl; rfl; (intro A' c'; (focus repeat' constructor)); (intro w' hw _; exact (hA.up hw).rd.raw DRule.len (by decide)); exact flat_len DRule.len x; exact all_flat oneR x; (simp only [maxLen]; omega); omega; intro A' c' hc1 hc2 hc3)) | (apply RL_st; rfl; (first | (apply Stp_append0; rfl; rfl; (intro A' c'; (focus repeat' constructor)); (intro w' hw _; exact (hA.up hw).rd.raw DRule.len (by decide)); exact flat_len DRule.len x; exact all_flat oneR x; (simp only [maxLen]; omega); omega; intro A' c' hc1 hc2 hc3) | (apply Stp_buildSlice0; intro bk))) | refine walk ?_)
  exact ret_1 _ _ (.tmp rfl) (.refl _) ⟨A', c', rfl, rfl⟩

theorem cloneS_spec (A : Option Addr) (c : Nat) (x : List ByteArray) (w : World) (hA : RdSl w A c strEnc 1 x) (hn : x.length ≤ 1000000) :
    Does Tryd.prog 21 [.slice A x.length c] w (NewSl 9 1 strEnc x) := by
  refine Does_of_W Tryd.func21 rfl rfl rfl rfl ?_
  repeat (first | (apply RL_st; rfl; (apply Stp_buildSlice0; intro bk)) | refine walk ?_)
  refine W_cond rfl (fun h1 => ?_) (fun h1 => ?_)
  · obtain rfl := hA.none h1
    refine W_nil 9 1 ?_
    repeat (first | (apply RL_st; rfl; (apply Stp_buildSlice0; intro bk)) | refine walk ?_)
    exact ret_1 _ [.row (.slice none 0 0) 9 1 0 []] (.tmp rfl) (by first | exact .refl _ | focus repeat (first | exact SubO.nil | (apply SubO.cons; focus repeat' constructor))) ⟨none, 0, rfl, rfl⟩
  repeat (first | (apply RL_st0; (apply Stp_append0; rfl; rfl; (intro A' c'; (focus repeat' constructor)); (intro w' hw _; exact (hA.up hw).rd.raw strEnc.len (by decide)); exact flat_len strEnc.len x; exact all_flat oneS x; (simp only [maxLen]; omega); omega; intro A' c' hc1 hc2 hc3)) | (apply RL_st; rfl; (first | (apply Stp_append0; rfl; rfl; (intro A' c'; (focus repeat' constructor)); (intro w' hw _; exact (hA.up hw).rd.raw strEnc.len (by decide)); exact flat_len strEnc.len x; exact all_flat oneS x; (simp only [maxLen]; omega); omega; intro A' c' hc1 hc2 hc3) | (apply Stp_buildSlice0; intro bk))) | refine walk ?_)
  exact ret_1 _ _ (.tmp rfl) (.refl _) ⟨A', c', rfl, rfl⟩

theorem cloneE_spec (A : Option Addr) (c : Nat) (x : List DEra) (w : World) (hA : RdSl w A c DEra.enc 13 x) (hn : x.length ≤ 1000000) :
    Does Tryd.prog 24 [.slice A x.length c] w (NewSl 69 13 DEra.enc x) := by
  refine Does_of_W Tryd.func24 rfl rfl rfl rfl ?_
  repeat (first | (apply RL_st; rfl; (apply Stp_buildSlice0; intro bk)) | refine walk ?_)
  refine W_cond rfl (fun h1 => ?_) (fun h1 => ?_)
  · obtain rfl := hA.none h1
    refine W_nil 69 13 ?_
    repeat (first | (apply RL_st; rfl; (apply Stp_buildSlice0; intro bk)) | refine walk ?_)
    exact ret_1 _ [.row (.slice none 0 0) 69 13 0 []] (.tmp rfl) (by first | exact .refl _ | focus repeat (first | exact SubO.nil | (apply SubO.cons; focus repeat' constructor))) ⟨none, 0, rfl, rfl⟩
  repeat (first | (apply RL_st0; (apply Stp_append0; rfl; rfl; (intro A' c'; (focus repeat' constructor)); (intro w' hw _; exact (hA.up hw).rd.raw DEra.len (by decide)); exact flat_len DEra.len x; exact all_flat oneE x; (simp only [maxLen]; omega); omega; intro A' c' hc1 hc2 hc3)) | (apply RL_st; rfl; (first | (apply Stp_append0; rfl; rfl; (intro A' c'; (focus repeat' constructor)); (intro w' hw _; exact (hA.up hw).rd.raw DEra.len (by decide)); exact flat_len DEra.len x; exact all_flat oneE x; (simp only [maxLen]; omega); omega; intro A' c' hc1 hc2 hc3) | (apply Stp_buildSlice0; intro bk))) | refine walk ?_)
  exact ret_1 _ _ (.tmp rfl) (.refl _) ⟨A', c', rfl, rfl⟩

end Go.Proofs.YtfhjfpikngcknaaDoor
