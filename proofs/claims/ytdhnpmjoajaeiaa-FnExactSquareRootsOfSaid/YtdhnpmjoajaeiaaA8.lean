/- Contracts: p-adic numbers that are valid. -/
import Derived.Test.YtdhnpmjoajaeiaaA7
namespace Go.Proofs.Ytdhnpmjoajaeiaa
open Go Go.RowKit


/-- A valid p-adic number. -/
def padicB (p v u n : Int) : Bool := smallP p && inB v (-60) 60 && (if n = 0 then u == 0 else ringB p n && inB u 0 (p ^ n.toNat - 1) && (u % p != 0))

theorem padicB_f1 {p v u n : Int} (h : smallP p = false) : padicB p v u n = false := by simp [padicB, h]
theorem padicB_f2 {p v u n : Int} (h : inB v (-60) 60 = false) : padicB p v u n = false := by simp [padicB, h]

end Go.Proofs.Ytdhnpmjoajaeiaa
