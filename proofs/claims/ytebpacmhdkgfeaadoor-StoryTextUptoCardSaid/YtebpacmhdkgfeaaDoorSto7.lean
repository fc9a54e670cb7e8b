/- Chapter 29: the lines of an event, in plain words. -/
import Derived.Test.YtebpacmhdkgfeaaDoorSto2
import Derived.Test.YtebpacmhdkgfeaaDoorPly
import Derived.Test.YtebpacmhdkgfeaaDoorMkZ
namespace Go.Proofs.YtebpacmhdkgfeaaDoor
open Go.RowKit

def Pce.word (p : Pce) : ByteArray := ⟨#[112, 105, 101, 99, 101, 58]⟩ ++ itoaB p.idx
def Xat.word (x : Xat) : ByteArray := (if x.gone = true then ⟨#[100, 101, 108, 58]⟩ else ⟨#[115, 101, 116, 58]⟩) ++ x.name
def kindWs (k : Int) : List ByteArray := if k = 1 then [⟨#[102, 105, 108, 101]⟩] else if k = 2 then [⟨#[100, 105, 114]⟩] else if k = 3 then [⟨#[115, 121, 109]⟩] else []
def IHd.ws (h : IHd) : List ByteArray := kindWs h.kind ++ (if h.attr.at_ = Mk.zero then [] else [⟨#[97, 116, 116, 114]⟩]) ++ (if h.size.at_ = Mk.zero then [] else [⟨#[115, 105, 122, 101, 58]⟩ ++ itoaB h.size.n])
def InoD.ws (d : InoD) : List ByteArray := d.hd.ws ++ d.ps.map Pce.word ++ d.xs.map Xat.word
def InoD.line (d : InoD) : ByteArray := ⟨#[105, 110, 111, 100, 101, 32]⟩ ++ d.hd.id.text ++ ⟨#[32]⟩ ++ joinB d.ws
def V8.isZero (v : V8) : Bool := decide (v = V8.zero)
def Lnk.ws (l : Lnk) : List ByteArray := (if l.at_ = Mk.zero then [] else [⟨#[112, 108, 97, 99, 101, 58]⟩ ++ l.parent.text ++ ⟨#[47]⟩ ++ l.name]) ++ (if l.alive = V8.zero then [] else [⟨#[97, 108, 105, 118, 101]⟩]) ++ (if l.dead = V8.zero then [] else [⟨#[100, 101, 97, 100]⟩])
def Lnk.line (l : Lnk) : ByteArray := ⟨#[108, 105, 110, 107, 32]⟩ ++ l.id.text ++ ⟨#[32]⟩ ++ joinB l.ws
def storyLines (at_ : Mk) (vol : Int) (d : StaD) : List ByteArray := (⟨#[101, 118, 101, 110, 116, 32]⟩ ++ at_.text ++ ⟨#[32, 118]⟩ ++ itoaB vol) :: (d.nodes.map InoD.line ++ d.links.map Lnk.line)
end Go.Proofs.YtebpacmhdkgfeaaDoor
