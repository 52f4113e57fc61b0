/- The plain law of the shifts: a shift of noughts, two shifts one behind the other. -/
import Derived.Test.YtklefgcackchiaaProxLearn
namespace Go.Proofs.Ytklefgcackchiaa
open Go.RowKit
set_option linter.unusedVariables false
namespace Prox
theorem toS_toS (a b c d : Int) (x : C) : toS c d (toS a b x) = toS ((a + c) % 4294967296) ((b + d) % 4294967296) x := by
  have ho : (x.opts.map (there a b)).map (there c d) = x.opts.map (there ((a + c) % 4294967296) ((b + d) % 4294967296)) := by
    rw [List.map_map]
    exact List.map_congr_left fun o _ => there_there a b c d o
  unfold toS
  simp only [ho]
  cases hasAck x.fl
  · rfl
  · have h : ((x.ak + a) % 4294967296 + c) % 4294967296 = (x.ak + (a + c) % 4294967296) % 4294967296 := by omega
    simp only [if_true, h]
theorem toC_toC (a b c d : Int) (x : C) : toC c d (toC a b x) = toC ((a + c) % 4294967296) ((b + d) % 4294967296) x := by
  have hm : ((-b) % 4294967296 + (-d) % 4294967296) % 4294967296 = (-((b + d) % 4294967296)) % 4294967296 := by omega
  have ho : (x.opts.map (back ((-b) % 4294967296))).map (back ((-d) % 4294967296)) = x.opts.map (back ((-((b + d) % 4294967296)) % 4294967296)) := by
    rw [List.map_map, ← hm]
    exact List.map_congr_left fun o _ => back_back _ _ o
  have h : ((x.sq - a) % 4294967296 - c) % 4294967296 = (x.sq - (a + c) % 4294967296) % 4294967296 := by omega
  unfold toC
  simp only [ho, h]
theorem toS_zero {x : C} (ha : 0 ≤ x.ak ∧ x.ak ≤ 4294967295) (ho : ∀ o ∈ x.opts, isB o.2) : toS 0 0 x = x := by
  have h1 : x.opts.map (there 0 0) = x.opts := by
    conv => rhs; rw [← List.map_id x.opts]
    exact List.map_congr_left fun o hm => there_zero o (ho o hm)
  have h2 : (x.ak + 0) % 4294967296 = x.ak := by omega
  unfold toS
  simp only [h1, h2, ite_self]
theorem toC_zero {x : C} (ha : 0 ≤ x.sq ∧ x.sq ≤ 4294967295) (ho : ∀ o ∈ x.opts, isB o.2) : toC 0 0 x = x := by
  have h0 : ((-0 : Int)) % 4294967296 = 0 := by decide
  have h1 : x.opts.map (back 0) = x.opts := by
    conv => rhs; rw [← List.map_id x.opts]
    exact List.map_congr_left fun o hm => back_zero o (ho o hm)
  have h2 : (x.sq - 0) % 4294967296 = x.sq := by omega
  unfold toC
  simp only [h0, h1, h2]
end Prox
theorem con_isB {t : Tcp.T} {w : World} (ht : t.ok w) : ∀ o ∈ t.con.opts, isB o.2 := by
  intro o ho
  simp only [Tcp.T.con, List.mem_map] at ho
  obtain ⟨x, hx, rfl⟩ := ho
  exact (ht.opts.2.1 x hx).2.1
theorem con_toS_zero {t : Tcp.T} {w : World} (ht : t.ok w) : Prox.toS 0 0 t.con = t.con := Prox.toS_zero ht.ak (con_isB ht)
theorem con_toC_zero {t : Tcp.T} {w : World} (ht : t.ok w) : Prox.toC 0 0 t.con = t.con := Prox.toC_zero ht.sq (con_isB ht)
end Go.Proofs.Ytklefgcackchiaa
