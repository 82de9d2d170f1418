import Derived.Test.YtchocpffjnodfaaGreatCore
namespace Go.Bur
def glob:List (World→Prop):=[]
end Go.Bur
