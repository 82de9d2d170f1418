import Derived.Test.YtlcmdgpjiendmaaGreatCore
namespace Go.Bur
def glob:List (World→Prop):=[]
end Go.Bur
