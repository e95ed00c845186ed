import Derived.Test.YthbonailomfjlaaTd
namespace Go.Proofs.Ythbonailomfjlaa
open Go Go.Eng
structure TReading where
  Local : Int
  Low : Int
  High : Int
instance : Inhabited TReading := ⟨⟨default, default, default⟩⟩
def eTReading (x : TReading) : AV := .agg [eI x.Local, eI x.Low, eI x.High]
theorem lo_TReading (x : TReading) : (eTReading x).loose := (loose_agg (loose_cons (loose_int _ _) (loose_cons (loose_int _ _) (loose_cons (loose_int _ _) loose_nil))))
structure TClock where
  Drift : Int
  Readings : List TReading
instance : Inhabited TClock := ⟨⟨default, default⟩⟩
def eTClock (x : TClock) : AV := .agg [eI x.Drift, (eL 3 eTReading default) x.Readings]
theorem lo_TClock (x : TClock) : (eTClock x).loose := (loose_agg (loose_cons (loose_int _ _) (loose_cons (loose_lst fun _ => (lo_TReading _)) loose_nil)))
def eA60 (x : Int × Int × Int) : AV := .agg [eI x.1, eI x.2.1, eI x.2.2]
theorem lo_A60 (x : Int × Int × Int) : (eA60 x).loose := (loose_agg (loose_cons (loose_int _ _) (loose_cons (loose_int _ _) (loose_cons (loose_int _ _) loose_nil))))
structure TSpell where
  From : Int
  To : Int
instance : Inhabited TSpell := ⟨⟨default, default⟩⟩
def eTSpell (x : TSpell) : AV := .agg [eI x.From, eI x.To]
theorem lo_TSpell (x : TSpell) : (eTSpell x).loose := (loose_agg (loose_cons (loose_int _ _) (loose_cons (loose_int _ _) loose_nil)))
def eA48 (x : Int × Int) : AV := .agg [eI x.1, eI x.2]
theorem lo_A48 (x : Int × Int) : (eA48 x).loose := (loose_agg (loose_cons (loose_int _ _) (loose_cons (loose_int _ _) loose_nil)))
structure TEdge where
  at_f : Int
  by_f : Int
instance : Inhabited TEdge := ⟨⟨default, default⟩⟩
def eTEdge (x : TEdge) : AV := .agg [eI x.at_f, eI x.by_f]
theorem lo_TEdge (x : TEdge) : (eTEdge x).loose := (loose_agg (loose_cons (loose_int _ _) (loose_cons (loose_int _ _) loose_nil)))
structure TWindow where
  low_f : Int
  high_f : Int
instance : Inhabited TWindow := ⟨⟨default, default⟩⟩
def eTWindow (x : TWindow) : AV := .agg [eI x.low_f, eI x.high_f]
theorem lo_TWindow (x : TWindow) : (eTWindow x).loose := (loose_agg (loose_cons (loose_int _ _) (loose_cons (loose_int _ _) loose_nil)))
def PF : FuncId → Bool := fun f => [3, 4, 5, 6, 7, 8, 9, 10, 11, 12, 13, 14, 15, 16, 17, 18, 19, 20, 21, 22, 23, 24, 25, 26, 27, 28, 29, 30, 34, 35, 36, 37, 38, 39, 40, 41].contains f
end Go.Proofs.Ythbonailomfjlaa
