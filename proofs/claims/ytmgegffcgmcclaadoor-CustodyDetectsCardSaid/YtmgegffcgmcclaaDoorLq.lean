/- two links are equal or not. -/
import Derived.Test.YtmgegffcgmcclaaDoorCu12
namespace Go.Proofs.YtmgegffcgmcclaaDoor.Cu
open Go.RowKit Go.Proofs.YtmgegffcgmcclaaDoor.Id Go.Maps

set_option maxRecDepth 100000 in
set_option maxHeartbeats 1000000 in
theorem link_eq (y x : Lk) : ∃ bb : Bool, ∀ W : World, (Op.equalIn 10000 44 (.agg #[.string y.it, .string y.pa, .int .i64 y.t, .int .i64 y.vo, .string y.sp, .int .u64 y.ha]) (.agg #[.string x.it, .string x.pa, .int .i64 x.t, .int .i64 x.vo, .string x.sp, .int .u64 x.ha])).run Tryd.prog W = .ok bb W := by
  obtain ⟨b0, h0⟩ : ∃ b, (y.it.toList == x.it.toList) = b := ⟨_, rfl⟩
  obtain ⟨b1, h1⟩ : ∃ b, (y.pa.toList == x.pa.toList) = b := ⟨_, rfl⟩
  obtain ⟨b2, h2⟩ : ∃ b, (y.t == x.t) = b := ⟨_, rfl⟩
  obtain ⟨b3, h3⟩ : ∃ b, (y.vo == x.vo) = b := ⟨_, rfl⟩
  obtain ⟨b4, h4⟩ : ∃ b, (y.sp.toList == x.sp.toList) = b := ⟨_, rfl⟩
  obtain ⟨b5, h5⟩ : ∃ b, (y.ha == x.ha) = b := ⟨_, rfl⟩
  cases b0
  · exact ⟨false, fun W => by go_simp⟩
  cases b1
  · exact ⟨false, fun W => by go_simp⟩
  cases b2
  · exact ⟨false, fun W => by go_simp⟩
  cases b3
  · exact ⟨false, fun W => by go_simp⟩
  cases b4
  · exact ⟨false, fun W => by go_simp⟩
  cases b5
  · exact ⟨false, fun W => by go_simp⟩
  exact ⟨true, fun W => by go_simp⟩
end Go.Proofs.YtmgegffcgmcclaaDoor.Cu
