/- Clusters and jobs as values; how they come in. -/
import Derived.Test.YtgedkcglkhleoaaGreatDoorEntryE
import Derived.Test.YtgedkcglkhleoaaGreatDoorAdmit
import Derived.Test.YtgedkcglkhleoaaGreatDoorBase
namespace Go.Proofs.YtgedkcglkhleoaaGreatDoor
open Go.RowKit

structure ConfS where
  scheds : Int
  lease : Int
  again : Int
  room : Int
  out : Int
  names : List ByteArray
  workers : List WorkerS
structure JobS where
  id : Int
  needs : List ByteArray
def Kd.conf : Kd ConfS := Kd.iso (Kd.pair I64 (Kd.pair I64 (Kd.pair I64 (Kd.pair I64 (Kd.pair I64 (Kd.pair Kd.str.slice Kd.worker.slice)))))) (fun C => (C.scheds, C.lease, C.again, C.room, C.out, C.names, C.workers))
def Kd.job : Kd JobS := Kd.iso (Kd.pair I64 Kd.str.slice) (fun J => (J.id, J.needs))
/-- A cluster's seven cells. -/
theorem conf_cells {w : World} {S : Nat → Prop} {C : ConfS} {cs : List Value} (h : Kd.conf.K w S C cs) : ∃ A c B d, cs = [.int .i64 C.scheds, .int .i64 C.lease, .int .i64 C.again, .int .i64 C.room, .int .i64 C.out, .slice A C.names.length c, .slice B C.workers.length d] ∧ Kd.str.slice.K w S C.names [.slice A C.names.length c] ∧ Kd.worker.slice.K w S C.workers [.slice B C.workers.length d] := by
  obtain ⟨c0, r0, rfl, h0, k0⟩ := h
  obtain ⟨c1, r1, rfl, h1, k1⟩ := k0
  obtain ⟨c2, r2, rfl, h2, k2⟩ := k1
  obtain ⟨c3, r3, rfl, h3, k3⟩ := k2
  obtain ⟨c4, r4, rfl, h4, k4⟩ := k3
  obtain ⟨c5, r5, rfl, h5, k5⟩ := k4
  have h6 := h5
  have k6 := k5
  obtain ⟨A, c, rfl, _⟩ := h6
  obtain ⟨B, d, rfl, _⟩ := k6
  cases h0; cases h1; cases h2; cases h3; cases h4
  exact ⟨A, c, B, d, rfl, h5, k5⟩
theorem conf_of {w : World} {S : Nat → Prop} (C : ConfS) {A B : Option Addr} {c d : Nat} (h1 : Kd.str.slice.K w S C.names [.slice A C.names.length c]) (h2 : Kd.worker.slice.K w S C.workers [.slice B C.workers.length d]) : Kd.conf.K w S C [.int .i64 C.scheds, .int .i64 C.lease, .int .i64 C.again, .int .i64 C.room, .int .i64 C.out, .slice A C.names.length c, .slice B C.workers.length d] :=
  ⟨[_], _, rfl, rfl, [_], _, rfl, rfl, [_], _, rfl, rfl, [_], _, rfl, rfl, [_], _, rfl, rfl, [_], _, rfl, h1, h2⟩
theorem job_cells {w : World} {S : Nat → Prop} {J : JobS} {cs : List Value} (h : Kd.job.K w S J cs) : ∃ A c, cs = [.int .i64 J.id, .slice A J.needs.length c] ∧ Kd.str.slice.K w S J.needs [.slice A J.needs.length c] := by
  obtain ⟨c0, r0, rfl, h0, k0⟩ := h
  have k6 := k0
  obtain ⟨A, c, rfl, _⟩ := k6
  cases h0
  exact ⟨A, c, rfl, k0⟩
theorem job_of {w : World} {S : Nat → Prop} (J : JobS) {A : Option Addr} {c : Nat} (h1 : Kd.str.slice.K w S J.needs [.slice A J.needs.length c]) : Kd.job.K w S J [.int .i64 J.id, .slice A J.needs.length c] := ⟨[_], _, rfl, rfl, h1⟩
theorem Tryz.opensWorker : Opens Tryz.prog 57 Kd.worker (fun x => x.attrs < 2 ^ 64) :=
  opens_mapO (fun p : Int × Int × Int => (⟨p.1, p.2.1, p.2.2.toNat⟩ : WorkerS))
    (opens_struct (l := [(3, 0), (3, 1), (55, 2)]) (by kernel_rfl) (by simp) (by kernel_rfl) (opensF_cons (by kernel_rfl) (opens_int Tryz.underlying3) (by decide) (opensF_cons (by kernel_rfl) (opens_int Tryz.underlying3) (by decide) (opensF_one (by kernel_rfl) (opens_int Tryz.underlying55)))))
    (fun w S x cs ho h => by
      obtain ⟨c0, r0, rfl, h0, k0⟩ := h
      obtain ⟨c1, c2, rfl, h1, h2⟩ := k0
      cases h0; cases h1; cases h2
      have hr := u64_range ho.2.2
      show [Value.int .i64 x.1, .int .i64 x.2.1, .int .u64 x.2.2] = [Value.int .i64 x.1, .int .i64 x.2.1, .int .u64 (x.2.2.toNat : Int)]
      rw [show ((x.2.2.toNat : Nat) : Int) = x.2.2 by omega])
    (fun x ho => by
      have hr := u64_range ho.2.2
      show x.2.2.toNat < 2 ^ 64
      omega)
def okConf (C : ConfS) : Prop := okStrs C.names ∧ (∀ x ∈ C.workers, x.attrs < 2 ^ 64) ∧ C.workers.length * 24 ≤ 140737488351232
theorem Tryz.opensConf : Opens Tryz.prog 25 Kd.conf okConf :=
  opens_mapO (fun p : Int × Int × Int × Int × Int × List ByteArray × List WorkerS => (⟨p.1, p.2.1, p.2.2.1, p.2.2.2.1, p.2.2.2.2.1, p.2.2.2.2.2.1, p.2.2.2.2.2.2⟩ : ConfS))
    (opens_struct (l := [(3, 0), (3, 1), (3, 2), (3, 3), (3, 4), (22, 5), (23, 6)]) (by kernel_rfl) (by simp) (by kernel_rfl)
      (opensF_cons (by kernel_rfl) (opens_int Tryz.underlying3) (by decide) (opensF_cons (by kernel_rfl) (opens_int Tryz.underlying3) (by decide) (opensF_cons (by kernel_rfl) (opens_int Tryz.underlying3) (by decide)
      (opensF_cons (by kernel_rfl) (opens_int Tryz.underlying3) (by decide) (opensF_cons (by kernel_rfl) (opens_int Tryz.underlying3) (by decide)
      (opensF_cons (by kernel_rfl) (opens_slice Tryz.underlying22 (by kernel_rfl) (by kernel_rfl) (by decide) (by decide) (opens_str Tryz.underlying9)) (by decide)
      (opensF_one (by kernel_rfl) (opens_slice Tryz.underlying23 (by kernel_rfl) (by kernel_rfl) (by decide) (by decide) Tryz.opensWorker)))))))))
    (fun w S x cs _ h => h) (fun x ho => ⟨ho.2.2.2.2.2.1, ho.2.2.2.2.2.2.1, ho.2.2.2.2.2.2.2⟩)
theorem Tryz.opensJob : Opens Tryz.prog 54 Kd.job (fun J => okStrs J.needs) :=
  opens_mapO (fun p : Int × List ByteArray => (⟨p.1, p.2⟩ : JobS))
    (opens_struct (l := [(3, 0), (22, 1)]) (by kernel_rfl) (by simp) (by kernel_rfl)
      (opensF_cons (by kernel_rfl) (opens_int Tryz.underlying3) (by decide) (opensF_one (by kernel_rfl) (opens_slice Tryz.underlying22 (by kernel_rfl) (by kernel_rfl) (by decide) (by decide) (opens_str Tryz.underlying9)))))
    (fun w S x cs _ h => h) (fun x ho => ho.2)
end Go.Proofs.YtgedkcglkhleoaaGreatDoor
