import Derived.Test.YtcidmnpihffphaaTd
import Derived.Test.YtcidmnpihffphaaEngZ
namespace Go.Proofs.Ytcidmnpihffphaa
open Go Go.Eng
def eA71 (x : Int × Int) : AV := .agg [eI x.1, eI x.2]
theorem lo_A71 (x : Int × Int) : (eA71 x).loose := (loose_agg (loose_cons (loose_int _ _) (loose_cons (loose_int _ _) loose_nil)))
def eA23 (x : Int × Int × Int) : AV := .agg [eI x.1, eI x.2.1, eI x.2.2]
theorem lo_A23 (x : Int × Int × Int) : (eA23 x).loose := (loose_agg (loose_cons (loose_int _ _) (loose_cons (loose_int _ _) (loose_cons (loose_int _ _) loose_nil))))
structure TGrowth where
  From : Int
  Capacity : Int
instance : Inhabited TGrowth := ⟨⟨default, default⟩⟩
def eTGrowth (x : TGrowth) : AV := .agg [eI x.From, eI x.Capacity]
theorem lo_TGrowth (x : TGrowth) : (eTGrowth x).loose := (loose_agg (loose_cons (loose_int _ _) (loose_cons (loose_int _ _) loose_nil)))
structure TRegion where
  Steps : List TGrowth
  Signals : Int
instance : Inhabited TRegion := ⟨⟨default, default⟩⟩
def eTRegion (x : TRegion) : AV := .agg [(eL 2 eTGrowth default) x.Steps, eI x.Signals]
theorem lo_TRegion (x : TRegion) : (eTRegion x).loose := (loose_agg (loose_cons (loose_lst fun _ => (lo_TGrowth _)) (loose_cons (loose_int _ _) loose_nil)))
structure TAttempt where
  Caller : Int
  At : Int
  Urgent : Bool
instance : Inhabited TAttempt := ⟨⟨default, default, default⟩⟩
def eTAttempt (x : TAttempt) : AV := .agg [eI x.Caller, eI x.At, eB x.Urgent]
theorem lo_TAttempt (x : TAttempt) : (eTAttempt x).loose := (loose_agg (loose_cons (loose_int _ _) (loose_cons (loose_int _ _) (loose_cons (loose_bool _) loose_nil))))
structure TTicket where
  Caller : Int
  First : Int
  At : Int
instance : Inhabited TTicket := ⟨⟨default, default, default⟩⟩
def eTTicket (x : TTicket) : AV := .agg [eI x.Caller, eI x.First, eI x.At]
theorem lo_TTicket (x : TTicket) : (eTTicket x).loose := (loose_agg (loose_cons (loose_int _ _) (loose_cons (loose_int _ _) (loose_cons (loose_int _ _) loose_nil))))
def PF : FuncId → Bool := fun f => [3, 4, 5, 6, 7, 8, 9, 10, 11, 12, 13, 14, 15, 16, 17, 18, 19, 20, 21, 22, 23, 24, 25, 26, 27, 28, 29, 30, 31, 32, 33, 34, 35, 36, 37, 38, 39, 40, 41, 43, 45, 46, 47, 48, 49, 50, 51, 52, 53, 54, 55, 57, 58, 61].contains f
end Go.Proofs.Ytcidmnpihffphaa
