import Derived.Test.YtlcmdgpjiendmaaGreatCore
namespace Go.Bur
def ZP:List (World->Prop):=[]
end Go.Bur
