import Derived.WalkKit
namespace Go.Bur
abbrev dn(w:World):Nat:=w.drawn
theorem Tx{w w':World}(h:w.drawn<=w'.drawn):dn w<=dn w':=h
end Go.Bur
