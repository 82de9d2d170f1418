/- What is known of the program's variables all along: nothing here. -/
import Derived.Test.YtkfemopgfjooeaaCore
namespace Go.Bur
def glob : List (World → Prop) := []
end Go.Bur
