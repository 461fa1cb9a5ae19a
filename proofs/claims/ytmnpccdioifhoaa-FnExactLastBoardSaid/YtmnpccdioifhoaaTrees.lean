/- The orders of the program's open regions, as trees. No condition. -/
import Derived.Test.YtmnpccdioifhoaaDraw
namespace Go.Proofs.Ytmnpccdioifhoaa.X
def tr24_3 : Tr := .take 0 (.take 1 (.take 2 (.take 3 (.take 5 (.take 6 (.take 7 (.take 8 (.take 9 (.take 11 (.alt 4 (.take 10 (.take 12 (.done))) (.no)))))))))))
def tb24_3 : Tr := .take 0 (.take 1 (.take 2 (.take 5 (.take 6 (.take 7 (.take 11 (.alt 3 (.alt 4 (.alt 8 (.take 9 (.take 10 (.take 12 (.done)))) (.no)) (.alt 8 (.take 9 (.alt 4 (.take 10 (.take 12 (.done))) (.no))) (.no))) (.alt 8 (.take 9 (.alt 3 (.alt 4 (.take 10 (.take 12 (.done))) (.no)) (.no))) (.no)))))))))
def tr27_1 : Tr := .take 0 (.take 1 (.take 2 (.take 3 (.take 5 (.take 6 (.take 7 (.take 8 (.take 9 (.alt 4 (.alt 10 (.take 11 (.done)) (.no)) (.no))))))))))
def tb27_1 : Tr := .take 0 (.take 1 (.take 2 (.take 5 (.take 6 (.take 7 (.alt 3 (.alt 4 (.alt 8 (.take 9 (.alt 10 (.take 11 (.done)) (.no))) (.no)) (.alt 8 (.take 9 (.alt 4 (.alt 10 (.take 11 (.done)) (.no)) (.no))) (.no))) (.alt 8 (.take 9 (.alt 3 (.alt 4 (.alt 10 (.take 11 (.done)) (.no)) (.no)) (.no))) (.no))))))))
def tr32_0 : Tr := .take 0 (.take 1 (.take 2 (.take 3 (.take 6 (.take 9 (.take 10 (.take 11 (.take 12 (.take 13 (.alt 4 (.take 5 (.take 7 (.alt 8 (.alt 14 (.take 15 (.done)) (.no)) (.no)))) (.no)))))))))))
def tb32_0 : Tr := .take 0 (.take 1 (.take 2 (.take 6 (.take 9 (.take 10 (.take 11 (.alt 3 (.alt 4 (.take 5 (.take 7 (.alt 8 (.alt 12 (.take 13 (.alt 14 (.take 15 (.done)) (.no))) (.no)) (.alt 12 (.take 13 (.alt 8 (.alt 14 (.take 15 (.done)) (.no)) (.no))) (.no))))) (.alt 12 (.take 13 (.alt 4 (.take 5 (.take 7 (.alt 8 (.alt 14 (.take 15 (.done)) (.no)) (.no)))) (.no))) (.no))) (.alt 12 (.take 13 (.alt 3 (.alt 4 (.take 5 (.take 7 (.alt 8 (.alt 14 (.take 15 (.done)) (.no)) (.no)))) (.no)) (.no))) (.no)))))))))
end Go.Proofs.Ytmnpccdioifhoaa.X
